/-
  Names and tags, walked. Conditions: none.
-/
import Derived.Test.YtemcklmfpapmpaaGreatTypes
import Derived.Test.YtemcklmfpapmpaaGreatApi
namespace Go.Sod
set_option linter.unusedVariables false
set_option linter.unusedSimpArgs false
set_option maxRecDepth 10000
set_option maxHeartbeats 4000000

def plainB (c : Int) : Bool := (decide (97 ≤ c) && decide (c ≤ 122)) || (decide (48 ≤ c) && decide (c ≤ 57))
def allB (p : Int → Bool) (s : ByteArray) : Bool := (List.range s.size).all fun k => p (chr s k)
theorem allB_true {p : Int → Bool} {s : ByteArray} (h : ∀ k, k < s.size → p (chr s k) = true) : allB p s = true := by
  simp only [allB, List.all_eq_true, List.mem_range]; exact h
theorem allB_false {p : Int → Bool} {s : ByteArray} {k : Nat} (hk : k < s.size) (h : p (chr s k) = false) : allB p s = false := by
  rw [allB, List.all_eq_false]
  exact ⟨k, List.mem_range.2 hk, by rw [h]; decide⟩
theorem allB_get {p : Int → Bool} {s : ByteArray} (h : allB p s = true) {k : Nat} (hk : k < s.size) : p (chr s k) = true := by
  simp only [allB, List.all_eq_true, List.mem_range] at h; exact h k hk
/-- may a text be a name? -/
def nameB (s : ByteArray) : Bool := !(((decide ((s.size : Int) < 1) || decide (24 < (s.size : Int))) || decide (chr s 0 = 45)) || decide (chr s (s.size - 1) = 45)) && allB (fun c => plainB c || decide (c = 45)) s
theorem nameB_size {s : ByteArray} (h : nameB s = true) : 1 ≤ s.size ∧ s.size ≤ 24 := by
  simp only [nameB, Bool.and_eq_true, Bool.not_eq_true', Bool.or_eq_false_iff, decide_eq_false_iff_not] at h
  omega
theorem plain45 : plainB 45 = false := by decide
theorem nameB_true {s : ByteArray} (h1 : 1 ≤ s.size) (h2 : s.size ≤ 24) (h : ∀ k, k < s.size → plainB (chr s k) = true ∨ (chr s k = 45 ∧ k ≠ 0 ∧ k ≠ s.size - 1)) : nameB s = true := by
  have a1 : ¬ chr s 0 = 45 := fun e => by
    rcases h 0 (by omega) with q | q
    · rw [e] at q; cases plain45.symm.trans q
    · exact q.2.1 rfl
  have a2 : ¬ chr s (s.size - 1) = 45 := fun e => by
    rcases h (s.size - 1) (by omega) with q | q
    · rw [e] at q; cases plain45.symm.trans q
    · exact q.2.2 rfl
  have a3 := allB_true (p := fun c => plainB c || decide (c = 45)) (s := s) (fun k hk => by rcases h k hk with q | q <;> simp [q])
  simp only [nameB, a3, a1, a2, decide_false, Bool.or_false, Bool.and_true, Bool.not_eq_true', Bool.or_eq_false_iff, decide_eq_false_iff_not]
  omega
theorem nameB_false {s : ByteArray} {k : Nat} (hk : k < s.size) (h1 : plainB (chr s k) = false) (h2 : chr s k ≠ 45 ∨ k = 0 ∨ k = s.size - 1) : nameB s = false := by
  by_cases e : chr s k = 45
  · rcases h2 with q | q | q
    · exact absurd e q
    · subst q; simp [nameB, e]
    · subst q; simp [nameB, e]
  · have := allB_false (p := fun c => plainB c || decide (c = 45)) hk (by simp [h1, e])
    simp [nameB, this]
/-- does a list rise? -/
def risT (xs : List ByteArray) : Bool := (List.range (xs.length - 1)).all fun i => strLt (xs.getD i ⟨#[]⟩) (xs.getD (i + 1) ⟨#[]⟩)
theorem risT_true {xs : List ByteArray} (h : ∀ i (hi : i < xs.length), 0 < i → strLt xs[i - 1] xs[i] = true) : risT xs = true := by
  simp only [risT, List.all_eq_true, List.mem_range]
  intro i hi
  have := h (i + 1) (by omega) (by omega)
  simpa [List.getD_eq_getElem?_getD, show i < xs.length by omega, show i + 1 < xs.length by omega] using this
theorem risT_false {xs : List ByteArray} {k : Nat} (h0 : 0 < k) (hk : k < xs.length) (h : strLt xs[k - 1] xs[k] = false) : risT xs = false := by
  rw [risT, List.all_eq_false]
  refine ⟨k - 1, List.mem_range.2 (by omega), ?_⟩
  have e : k - 1 + 1 = k := by omega
  simp [List.getD_eq_getElem?_getD, show k - 1 < xs.length by omega, e, hk, h]
/-- may a list be a service's tags? -/
def tagsB (xs : List ByteArray) : Bool := (decide ((xs.length : Int) ≤ 4) && risT xs) && xs.all nameB
theorem tagsB_true {xs : List ByteArray} (h0 : xs.length ≤ 4) (h : ∀ i (hi : i < xs.length), nameB xs[i] = true ∧ (0 < i → strLt xs[i - 1] xs[i] = true)) : tagsB xs = true := by
  have a1 := risT_true (fun i hi => (h i hi).2)
  have a2 : xs.all nameB = true := by
    rw [List.all_eq_true]
    intro x hx
    obtain ⟨i, hi, rfl⟩ := List.getElem_of_mem hx
    exact (h i hi).1
  simp only [tagsB, a1, a2, Bool.and_true, decide_eq_true_eq]; omega
theorem tagsB_long {xs : List ByteArray} (h0 : 4 < xs.length) : tagsB xs = false := by
  have : decide ((xs.length : Int) ≤ 4) = false := decide_eq_false (by omega)
  simp [tagsB, this]
theorem tagsB_name {xs : List ByteArray} {k : Nat} (hk : k < xs.length) (h : nameB xs[k] = false) : tagsB xs = false := by
  have : xs.all nameB = false := List.all_eq_false.2 ⟨xs[k], List.getElem_mem hk, by rw [h]; decide⟩
  simp [tagsB, this]
theorem tagsB_ris {xs : List ByteArray} {k : Nat} (h0 : 0 < k) (hk : k < xs.length) (h : strLt xs[k - 1] xs[k] = false) : tagsB xs = false := by
  simp [tagsB, risT_false h0 hk h]

theorem plain_walk {h : Hp} {c : Int} : FV Go.Proofs.Tryz.prog 103 [.int .u8 c] h (.bool (plainB c)) := by
  refine FS.enter Go.Proofs.Tryz.func103 rfl rfl fun w0 => ?_
  refine .seq (.text (.as_ rfl rfl (.done (.thenN ?_))))
  refine .seq (.text (.mv rfl rfl (.cmp rfl rfl rfl rfl (.mv rfl rfl (.and (d := 8) (g := 5) _ _ (take_drop 3) rfl rfl (fun hb1_3 => .guard rfl rfl rfl rfl (.mv rfl rfl (.guard rfl rfl rfl rfl (.cmp rfl rfl rfl rfl (.pick rfl rfl rfl rfl ((.done (.thenN (.midB rfl))))))))) (.guardNo rfl rfl rfl rfl rfl rfl (.guardNo rfl rfl rfl rfl rfl rfl (.pick rfl rfl rfl rfl ((.done (.thenN (.midB rfl))))))) (.mv rfl rfl (.or (d := 16) (g := 9) _ _ (take_drop 7) rfl rfl (fun hb1_7 => .guard rfl rfl rfl rfl (.mv rfl rfl (.guard rfl rfl rfl rfl (.cmp rfl rfl rfl rfl (.guard rfl rfl rfl rfl (.mv rfl rfl (.and (d := 15) (g := 12) _ _ (take_drop 3) rfl rfl (fun hb1_10 => .guard rfl rfl rfl rfl (.mv rfl rfl (.guard rfl rfl rfl rfl (.cmp rfl rfl rfl rfl (.guard rfl rfl rfl rfl (.pick rfl rfl rfl rfl ((.done (.thenN (.midB rfl)))))))))) (.guardNo rfl rfl rfl rfl rfl rfl (.guardNo rfl rfl rfl rfl rfl rfl (.guard rfl rfl rfl rfl (.pick rfl rfl rfl rfl ((.done (.thenN (.midB rfl)))))))) (.pick rfl rfl rfl rfl ((.done (.thenN (.midB rfl)))))))))))) (.guardNo rfl rfl rfl rfl rfl rfl (.guardNo rfl rfl rfl rfl rfl rfl (.guardNo rfl rfl rfl rfl rfl rfl (.guardU rfl rfl rfl rfl rfl (.guardU rfl rfl rfl rfl rfl (.guardNo rfl rfl rfl rfl rfl rfl (.pick rfl rfl rfl rfl ((.done (.thenN (.midB rfl))))))))))) (.as_ rfl rfl (.done (.thenN ?_))))))))))
  refine .ret ?_
  exact J.retV rfl (by simp [resOne, plainB])

theorem plain01_walk {h : Hp} {c : Int} : FV Go.Proofs.Tryz.prog 111 [.int .u8 c] h (.bool (plainB c)) := by
  refine FS.enter Go.Proofs.Tryz.func111 rfl rfl fun w0 => ?_
  refine .seq (.text (.as_ rfl rfl (.done (.thenN ?_))))
  refine .seq (.text (.mv rfl rfl (.cmp rfl rfl rfl rfl (.mv rfl rfl (.and (d := 8) (g := 5) _ _ (take_drop 3) rfl rfl (fun hb1_3 => .guard rfl rfl rfl rfl (.mv rfl rfl (.guard rfl rfl rfl rfl (.cmp rfl rfl rfl rfl (.pick rfl rfl rfl rfl ((.done (.thenN (.midB rfl))))))))) (.guardNo rfl rfl rfl rfl rfl rfl (.guardNo rfl rfl rfl rfl rfl rfl (.pick rfl rfl rfl rfl ((.done (.thenN (.midB rfl))))))) (.mv rfl rfl (.or (d := 16) (g := 9) _ _ (take_drop 7) rfl rfl (fun hb1_7 => .guard rfl rfl rfl rfl (.mv rfl rfl (.guard rfl rfl rfl rfl (.cmp rfl rfl rfl rfl (.guard rfl rfl rfl rfl (.mv rfl rfl (.and (d := 15) (g := 12) _ _ (take_drop 3) rfl rfl (fun hb1_10 => .guard rfl rfl rfl rfl (.mv rfl rfl (.guard rfl rfl rfl rfl (.cmp rfl rfl rfl rfl (.guard rfl rfl rfl rfl (.pick rfl rfl rfl rfl ((.done (.thenN (.midB rfl)))))))))) (.guardNo rfl rfl rfl rfl rfl rfl (.guardNo rfl rfl rfl rfl rfl rfl (.guard rfl rfl rfl rfl (.pick rfl rfl rfl rfl ((.done (.thenN (.midB rfl)))))))) (.pick rfl rfl rfl rfl ((.done (.thenN (.midB rfl)))))))))))) (.guardNo rfl rfl rfl rfl rfl rfl (.guardNo rfl rfl rfl rfl rfl rfl (.guardNo rfl rfl rfl rfl rfl rfl (.guardU rfl rfl rfl rfl rfl (.guardU rfl rfl rfl rfl rfl (.guardNo rfl rfl rfl rfl rfl rfl (.pick rfl rfl rfl rfl ((.done (.thenN (.midB rfl))))))))))) (.as_ rfl rfl (.done (.thenN ?_))))))))))
  refine .ret ?_
  exact J.retV rfl (by simp [resOne, plainB])

theorem right1_walk {h : Hp} {c : Int} : FV Go.Proofs.Tryz.prog 102 [.int .u8 c] h (.bool (plainB c || decide (c = 45))) := by
  refine FS.enter Go.Proofs.Tryz.func102 rfl rfl fun w0 => ?_
  refine .seq (.text (.as_ rfl rfl (.done (.thenN ?_))))
  refine .seq (.text (.mv rfl rfl (?_)))
  refine .callV rfl rfl plain_walk rfl rfl (.mv rfl rfl (.or (d := 8) (g := 5) _ _ (take_drop 3) rfl rfl (fun hb1_3 => .guard rfl rfl rfl rfl (.mv rfl rfl (.guard rfl rfl rfl rfl (.cmp rfl rfl rfl rfl (.pick rfl rfl rfl rfl ((.done (.thenN (.midB rfl))))))))) (.guardNo rfl rfl rfl rfl rfl rfl (.guardNo rfl rfl rfl rfl rfl rfl (.pick rfl rfl rfl rfl ((.done (.thenN (.midB rfl))))))) (.as_ rfl rfl (.done (.thenN ?_)))))
  refine .ret ?_
  exact J.retV rfl (by simp [resOne])

theorem all_walk {h : Hp} {s : ByteArray} {fid : Nat} [Fnc Go.Proofs.Tryz.prog fid] {p : Int → Bool} (hf : ∀ c, FV Go.Proofs.Tryz.prog fid [.int .u8 c] h (.bool (p c))) (hs : s.size ≤ maxL) : FV Go.Proofs.Tryz.prog 101 [.string s, .func (.func fid) ⟨[]⟩ ⟨[]⟩] h (.bool (allB p s)) := by
  refine FS.enter Go.Proofs.Tryz.func101 rfl rfl fun w0 => ?_
  refine .seq (.text (.as_ rfl rfl (.done (.thenN ?_))))
  refine .seq (.seq (.text (.mv rfl rfl (.lenS rfl rfl rfl (.mv rfl rfl (.done (.thenN ?_)))))))
  refine .block (?_)
  refine J.loop (fun k : Nat => k ≤ s.size ∧ ∀ i, i < k → p (chr s i) = true) (fun k => [(0, .string s), (1, .func (.func fid) ⟨[]⟩ ⟨[]⟩), (7, .int .i64 (s.size : Int)), (8, .int .i64 (k : Int))]) (fun _ => h) (fun _ => []) (fun k => s.size - k) 0 ⟨by omega, fun i h => by omega⟩ (.cons rfl (.cons rfl (.cons rfl (.cons rfl (.nil _))))) rfl rfl ?_
  rintro k ⟨hk0, hall⟩
  refine .seq (.text (.cmp rfl rfl rfl rfl (.done (.thenN ?_))))
  refine .seq (.cond rfl (fun hb2 => ?_) (fun hb2 => ?_))
  ·
    have hk : k < s.size := by simp [cmpI] at hb2; omega
    refine .skip (.thenN ?_)
    refine .seq (.block (.seq (.text (.mv rfl rfl (.as_ rfl rfl (.done (.thenN ?_)))))))
    refine .seq (.text (.mv rfl rfl (.mv rfl rfl (.mv rfl rfl (.ixS (i := k) rfl rfl rfl hk rfl (?_))))))
    refine .callV rfl rfl (hf (chr s k)) rfl rfl (.not rfl rfl (.done (.thenN ?_)))
    refine .cond rfl (fun hb4 => ?_) (fun hb4 => ?_)
    ·
      refine .seq (.text (.as_ rfl rfl (.done (.thenN ?_))))
      refine .ret (.blkR (.thenR (.thenR (.blkR (.thenR ?_)))))
      exact J.retV rfl (by simp only [resOne]; rw [allB_false hk (by simpa using hb4)])
    ·
      refine .skip (.blkN (.thenN ?_))
      refine .text (.inc rfl rfl (by unfold maxL at hs; omega) rfl (.mv rfl rfl (.done (.thenN ?_))))
      refine J.again (k + 1) (by omega) ⟨hk, fun i hi => ?_⟩ (.cons rfl (.cons rfl (.cons rfl (.cons rfl (.nil _))))) rfl rfl
      by_cases e : i = k
      · subst e; simpa using hb4
      · exact hall i (by omega)
  ·
    have hk : k = s.size := by simp [cmpI] at hb2; omega
    refine .exit (.thenE (.thenE (.blkHit (.thenN ?_))))
    refine .seq (.text (.as_ rfl rfl (.done (.thenN ?_))))
    refine .ret ?_
    exact J.retV rfl (by simp only [resOne]; rw [allB_true fun i hi => hall i (by omega)])

theorem nright_walk {h : Hp} {s : ByteArray} (hs : s.size ≤ maxL) : FV Go.Proofs.Tryz.prog 86 [.string s] h (.bool (nameB s)) := by
  refine FS.enter Go.Proofs.Tryz.func86 rfl rfl fun w0 => ?_
  refine .seq (.text (.as_ rfl rfl (.done (.thenN ?_))))
  refine .seq (.seq (.text (.mv rfl rfl (.lenS rfl rfl rfl (.cmp rfl rfl rfl rfl (.mv rfl rfl (.or (d := 10) (g := 6) _ _ (take_drop 4) rfl rfl (fun hb1_4 => .guard rfl rfl rfl rfl (.mv rfl rfl (.guard rfl rfl rfl rfl (.lenS rfl rfl rfl (.guard rfl rfl rfl rfl (.cmp rfl rfl rfl rfl (.pick rfl rfl rfl rfl ((.done (.thenN (.midB rfl))))))))))) (.guardNo rfl rfl rfl rfl rfl rfl (.guardNo rfl rfl rfl rfl rfl rfl (.guardNo rfl rfl rfl rfl rfl rfl (.pick rfl rfl rfl rfl ((.done (.thenN (.midB rfl)))))))) (.mv rfl rfl (.or (d := 15) (g := 11) _ _ (take_drop 4) rfl rfl (fun hb1_9 => .guard rfl rfl rfl rfl (.mv rfl rfl (.guard rfl rfl rfl rfl (.ixS (i := 0) rfl rfl rfl (by simp [cmpI] at hb1_9; omega) rfl (.guard rfl rfl rfl rfl (.cmp rfl rfl rfl rfl (.pick rfl rfl rfl rfl ((.done (.thenN (.midB rfl))))))))))) (.guardNo rfl rfl rfl rfl rfl rfl (.guardNo rfl rfl rfl rfl rfl rfl (.guardNo rfl rfl rfl rfl rfl rfl (.pick rfl rfl rfl rfl ((.done (.thenN (.midB rfl)))))))) (.mv rfl rfl (.or (d := 23) (g := 16) _ _ (take_drop 7) rfl rfl (fun hb1_14 => .guard rfl rfl rfl rfl (.mv rfl rfl (.guard rfl rfl rfl rfl (.mv rfl rfl (.guard rfl rfl rfl rfl (.lenS rfl rfl rfl (.guard rfl rfl rfl rfl (.dec rfl rfl (by simp [cmpI] at hb1_14; omega) (by unfold maxL at hs; omega) rfl (.guard rfl rfl rfl rfl (.ixS (i := s.size - 1) rfl rfl rfl (by simp [cmpI] at hb1_14; omega) rfl (.guard rfl rfl rfl rfl (.cmp rfl rfl rfl rfl (.pick rfl rfl rfl rfl ((.done (.thenN (.midB rfl))))))))))))))))) (.guardNo rfl rfl rfl rfl rfl rfl (.guardNo rfl rfl rfl rfl rfl rfl (.guardNo rfl rfl rfl rfl rfl rfl (.guardNo rfl rfl rfl rfl rfl rfl (.guardNo rfl rfl rfl rfl rfl rfl (.guardNo rfl rfl rfl rfl rfl rfl (.pick rfl rfl rfl rfl ((.done (.thenN (.midB rfl))))))))))) (.done (.thenN ?_)))))))))))))
  refine .cond rfl (fun hb1 => ?_) (fun hb1 => ?_)
  ·
    refine .seq (.text (.as_ rfl rfl (.done (.thenN ?_))))
    refine .ret (.thenR ?_)
    exact J.retV rfl (by simp only [resOne, nameB]; rw [hb1]; rfl)
  ·
    refine .skip (.thenN ?_)
    refine .seq (.text (.mv rfl rfl (?_)))
    refine .callV rfl rfl (all_walk (fun c => right1_walk) hs) rfl rfl (.as_ rfl rfl (.done (.thenN ?_)))
    refine .ret ?_
    exact J.retV rfl (by simp only [resOne, nameB]; rw [hb1]; rfl)

theorem right01_walk {h : Hp} {s : ByteArray} : FV Go.Proofs.Tryz.prog 99 [.string s] h (.bool (nameB s)) := by
  refine FS.enter Go.Proofs.Tryz.func99 rfl rfl fun w0 => ?_
  refine .seq (.text (.as_ rfl rfl (.done (.thenN ?_))))
  refine .seq (.seq (.text (.mv rfl rfl (.lenS rfl rfl rfl (.cmp rfl rfl rfl rfl (.mv rfl rfl (.or (d := 11) (g := 7) _ _ (take_drop 4) rfl rfl (fun hb1_4 => .guard rfl rfl rfl rfl (.mv rfl rfl (.guard rfl rfl rfl rfl (.lenS rfl rfl rfl (.guard rfl rfl rfl rfl (.cmp rfl rfl rfl rfl (.pick rfl rfl rfl rfl ((.done (.thenN (.midB rfl))))))))))) (.guardNo rfl rfl rfl rfl rfl rfl (.guardNo rfl rfl rfl rfl rfl rfl (.guardNo rfl rfl rfl rfl rfl rfl (.pick rfl rfl rfl rfl ((.done (.thenN (.midB rfl)))))))) (.done (.thenN ?_)))))))))
  refine .cond rfl (fun hb1 => ?_) (fun hb1 => ?_)
  ·
    refine .seq (.text (.as_ rfl rfl (.done (.thenN ?_))))
    refine .ret (.thenR ?_)
    have h0 : (decide ((s.size : Int) < 1) || decide (24 < (s.size : Int))) = true := hb1
    exact J.retV rfl (by simp only [resOne, nameB]; rw [h0]; rfl)
  ·
    have hs : 1 ≤ s.size ∧ s.size ≤ 24 := by simp [cmpI] at hb1; omega
    refine .skip (.thenN ?_)
    refine .seq (.seq (.text (.as_ rfl rfl (.done (.thenN ?_)))))
    refine .block (?_)
    refine J.loop (fun k : Nat => k ≤ s.size ∧ ∀ i, i < k → plainB (chr s i) = true ∨ (chr s i = 45 ∧ i ≠ 0 ∧ i ≠ s.size - 1)) (fun k => [(0, .string s), (3, .int .i64 (k : Int))]) (fun _ => h) (fun _ => []) (fun k => s.size - k) 0 ⟨by omega, fun i h => by omega⟩ (.cons rfl (.cons rfl (.nil _))) rfl rfl ?_
    rintro k ⟨hk0, hall⟩
    refine .seq (.seq (.text (.mv rfl rfl (.mv rfl rfl (.lenS rfl rfl rfl (.cmp rfl rfl rfl rfl (.done (.thenN ?_))))))))
    refine .cond rfl (fun hb4 => ?_) (fun hb4 => ?_)
    ·
      have hk : k < s.size := by simp [cmpI] at hb4; omega
      refine .skip (.thenN ?_)
      refine .seq (.block (.seq (.text (.mv rfl rfl (.mv rfl rfl (.ixS (i := k) rfl rfl rfl hk rfl (?_)))))))
      refine .callV rfl rfl plain01_walk rfl rfl (.not rfl rfl (.mv rfl rfl (.and (d := 39) (g := 23) _ _ (take_drop 16) rfl rfl (fun hb6_6 => .guard rfl rfl rfl rfl (.mv rfl rfl (.guard rfl rfl rfl rfl (.mv rfl rfl (.guard rfl rfl rfl rfl (.ixS (i := k) rfl rfl rfl hk rfl (.guard rfl rfl rfl rfl (.cmp rfl rfl rfl rfl (.guard rfl rfl rfl rfl (.mv rfl rfl (.or (d := 31) (g := 28) _ _ (take_drop 3) rfl rfl (fun hb6_11 => .guard rfl rfl rfl rfl (.mv rfl rfl (.guard rfl rfl rfl rfl (.cmp rfl rfl rfl rfl (.guard rfl rfl rfl rfl (.pick rfl rfl rfl rfl ((.done (.thenN (.midB rfl)))))))))) (.guardNo rfl rfl rfl rfl rfl rfl (.guardNo rfl rfl rfl rfl rfl rfl (.guard rfl rfl rfl rfl (.pick rfl rfl rfl rfl ((.done (.thenN (.midB rfl)))))))) (.guard rfl rfl rfl rfl (.mv rfl rfl (.or (d := 38) (g := 32) _ _ (take_drop 6) rfl rfl (fun hb6_15 => .guard rfl rfl rfl rfl (.mv rfl rfl (.guard rfl rfl rfl rfl (.mv rfl rfl (.guard rfl rfl rfl rfl (.lenS rfl rfl rfl (.guard rfl rfl rfl rfl (.dec rfl rfl (by omega) (by omega) rfl (.guard rfl rfl rfl rfl (.cmp rfl rfl rfl rfl (.guard rfl rfl rfl rfl (.pick rfl rfl rfl rfl ((.done (.thenN (.midB rfl)))))))))))))))) (.guardNo rfl rfl rfl rfl rfl rfl (.guardNo rfl rfl rfl rfl rfl rfl (.guardNo rfl rfl rfl rfl rfl rfl (.guardNo rfl rfl rfl rfl rfl rfl (.guardNo rfl rfl rfl rfl rfl rfl (.guard rfl rfl rfl rfl (.pick rfl rfl rfl rfl ((.done (.thenN (.midB rfl))))))))))) (.pick rfl rfl rfl rfl ((.done (.thenN (.midB rfl))))))))))))))))))) (.guardNo rfl rfl rfl rfl rfl rfl (.guardNo rfl rfl rfl rfl rfl rfl (.guardNo rfl rfl rfl rfl rfl rfl (.guardNo rfl rfl rfl rfl rfl rfl (.guardNo rfl rfl rfl rfl rfl rfl (.guardU rfl rfl rfl rfl rfl (.guardU rfl rfl rfl rfl rfl (.guardNo rfl rfl rfl rfl rfl rfl (.guardNo rfl rfl rfl rfl rfl rfl (.guardU rfl rfl rfl rfl rfl (.guardU rfl rfl rfl rfl rfl (.guardU rfl rfl rfl rfl rfl (.guardU rfl rfl rfl rfl rfl (.guardU rfl rfl rfl rfl rfl (.guardNo rfl rfl rfl rfl rfl rfl (.pick rfl rfl rfl rfl ((.done (.thenN (.midB rfl)))))))))))))))))))) (.done (.thenN ?_)))))
      refine .cond rfl (fun hb6 => ?_) (fun hb6 => ?_)
      ·
        refine .seq (.text (.as_ rfl rfl (.done (.thenN ?_))))
        refine .ret (.blkR (.thenR (.thenR (.blkR (.thenR ?_)))))
        refine J.retV rfl ?_
        simp [cmpI] at hb6
        simp only [resOne]; rw [nameB_false hk hb6.1 (by omega)]
      ·
        refine .skip (.blkN (.thenN ?_))
        refine .text (.mv rfl rfl (.inc rfl rfl (by omega) rfl (.as_ rfl rfl (.done (.thenN ?_)))))
        refine J.again (k + 1) (by omega) ⟨hk, fun i hi => ?_⟩ (.cons rfl (.cons rfl (.nil _))) rfl rfl
        by_cases e : i = k
        · subst e; cases hp : plainB (chr s i) with
          | true => exact .inl rfl
          | false => simp [cmpI, hp] at hb6; exact .inr (by omega)
        · exact hall i (by omega)
    ·
      have hk : k = s.size := by simp [cmpI] at hb4; omega
      refine .exit (.thenE (.thenE (.blkHit (.thenN ?_))))
      refine .seq (.text (.as_ rfl rfl (.done (.thenN ?_))))
      refine .ret ?_
      exact J.retV rfl (by simp only [resOne]; rw [nameB_true hs.1 hs.2 fun i hi => hall i (by omega)])

theorem ntags_walk {h : Hp} {v : Value} {xs : List ByteArray} (hx : SlR h 1 RS v xs) (hb : ∀ x, x ∈ xs → x.size ≤ maxL) : FV Go.Proofs.Tryz.prog 98 [v] h (.bool (tagsB xs)) := by
  refine FS.enter Go.Proofs.Tryz.func98 rfl rfl fun w0 => ?_
  refine .seq (.text (.as_ rfl rfl (.done (.thenN ?_))))
  refine .seq (.seq (.text (.mv rfl rfl (.len hx rfl rfl rfl (.cmp rfl rfl rfl rfl (.done (.thenN ?_)))))))
  refine .cond rfl (fun hb1 => ?_) (fun hb1 => ?_)
  ·
    refine .seq (.text (.as_ rfl rfl (.done (.thenN ?_))))
    refine .ret (.thenR ?_)
    exact J.retV rfl (by simp only [resOne]; rw [tagsB_long (by simp [cmpI] at hb1; omega)])
  ·
    have h4 : xs.length ≤ 4 := by simp [cmpI] at hb1; omega
    refine .skip (.thenN ?_)
    refine .seq (.seq (.text (.mv rfl rfl (.len hx rfl rfl rfl (.mv rfl rfl (.done (.thenN ?_)))))))
    refine .block (?_)
    refine J.loop (fun k : Nat => k ≤ xs.length ∧ ∀ i (hi : i < xs.length), i < k → nameB xs[i] = true ∧ (0 < i → strLt xs[i - 1] xs[i] = true)) (fun k => [(0, v), (8, v), (9, .int .i64 (xs.length : Int)), (10, .int .i64 (k : Int))]) (fun _ => h) (fun _ => []) (fun k => xs.length - k) 0 ⟨by omega, fun i hi h => by omega⟩ (.cons rfl (.cons rfl (.cons rfl (.cons rfl (.nil _))))) rfl rfl ?_
    rintro k ⟨hk0, hall⟩
    refine .seq (.text (.cmp rfl rfl rfl rfl (.done (.thenN ?_))))
    refine .seq (.cond rfl (fun hb4 => ?_) (fun hb4 => ?_))
    ·
      have hk : k < xs.length := by simp [cmpI] at hb4; omega
      refine .skip (.thenN ?_)
      refine .seq (.block (.seq (.text (.mv rfl rfl (.ix (i := k) hx rfl rfl rfl hk rfl (.ld1 hx hk rfl rfl rfl fun u hu => ?_))))))
      obtain rfl : u = .string xs[k] := by simpa [RS] using hu
      refine .as_ rfl rfl (.as_ rfl rfl (.done (.thenN ?_)))
      refine .seq (.text (.mv rfl rfl (?_)))
      refine .callV rfl rfl (nright_walk (hb xs[k] (List.getElem_mem hk))) rfl rfl (.not rfl rfl (.mv rfl rfl (.or (d := 30) (g := 18) _ _ (take_drop 12) rfl rfl (fun hb6_4 => .guard rfl rfl rfl rfl (.mv rfl rfl (.guard rfl rfl rfl rfl (.cmp rfl rfl rfl rfl (.guard rfl rfl rfl rfl (.mv rfl rfl (.and (d := 29) (g := 21) _ _ (take_drop 8) rfl rfl (fun hb6_7 => .guard rfl rfl rfl rfl (.mv rfl rfl (.guard rfl rfl rfl rfl (.mv rfl rfl (.guard rfl rfl rfl rfl (.dec rfl rfl (by simp [cmpI] at hb6_7; omega) (by omega) rfl (.guard rfl rfl rfl rfl (.ix (i := k - 1) hx rfl rfl rfl (by omega) rfl (.guard rfl rfl rfl rfl (.ldG (i := k - 1) (sz := 1) (off := 0) (.string (xs[k - 1]'(by omega))) hx (by omega) (by rfl) (fun vs e => by obtain rfl := e; rfl) rfl rfl (.guard rfl rfl rfl rfl (.mv rfl rfl (.guard rfl rfl rfl rfl (.cmpS rfl rfl rfl rfl (.guard rfl rfl rfl rfl (.pick rfl rfl rfl rfl ((.done (.thenN (.midB rfl)))))))))))))))))))) (.guardNo rfl rfl rfl rfl rfl rfl (.guardNo rfl rfl rfl rfl rfl rfl (.guardNo rfl rfl rfl rfl rfl rfl (.guardNo rfl rfl rfl rfl rfl rfl (.guardNo rfl rfl rfl rfl rfl rfl (.guardNo rfl rfl rfl rfl rfl rfl (.guardNo rfl rfl rfl rfl rfl rfl (.guard rfl rfl rfl rfl (.pick rfl rfl rfl rfl ((.done (.thenN (.midB rfl))))))))))))) (.pick rfl rfl rfl rfl ((.done (.thenN (.midB rfl)))))))))))) (.guardNo rfl rfl rfl rfl rfl rfl (.guardNo rfl rfl rfl rfl rfl rfl (.guardNo rfl rfl rfl rfl rfl rfl (.guardU rfl rfl rfl rfl rfl (.guardU rfl rfl rfl rfl rfl (.guardU rfl rfl rfl rfl rfl (.guardU rfl rfl rfl rfl rfl (.guardU rfl rfl rfl rfl rfl (.guardU rfl rfl rfl rfl rfl (.guardU rfl rfl rfl rfl rfl (.guardNo rfl rfl rfl rfl rfl rfl (.pick rfl rfl rfl rfl ((.done (.thenN (.midB rfl)))))))))))))))) (.done (.thenN ?_)))))
      refine .cond rfl (fun hb6 => ?_) (fun hb6 => ?_)
      ·
        refine .seq (.text (.as_ rfl rfl (.done (.thenN ?_))))
        refine .ret (.blkR (.thenR (.thenR (.blkR (.thenR ?_)))))
        refine J.retV rfl ?_
        simp only [resOne]
        cases hn : nameB xs[k] with
        | false => rw [tagsB_name hk hn]
        | true => simp [cmpI, hn] at hb6; rw [tagsB_ris hb6.1 hk hb6.2]
      ·
        refine .skip (.blkN (.thenN ?_))
        refine .text (.inc rfl rfl (by omega) rfl (.mv rfl rfl (.done (.thenN ?_))))
        refine J.again (k + 1) (by omega) ⟨hk, fun i hi hik => ?_⟩ (.cons rfl (.cons rfl (.cons rfl (.cons rfl (.nil _))))) rfl rfl
        by_cases e : i = k
        · subst e; simp [cmpI] at hb6; exact ⟨hb6.1, fun h0 => by simpa using hb6.2 h0⟩
        · exact hall i hi (by omega)
    ·
      have hk : k = xs.length := by simp [cmpI] at hb4; omega
      refine .exit (.thenE (.thenE (.blkHit (.thenN ?_))))
      refine .seq (.text (.as_ rfl rfl (.done (.thenN ?_))))
      refine .ret ?_
      exact J.retV rfl (by simp only [resOne]; rw [tagsB_true h4 fun i hi => hall i hi (by omega)])

theorem rising01_walk {h : Hp} {v : Value} {xs : List ByteArray} (hx : SlR h 1 RS v xs) : FV Go.Proofs.Tryz.prog 112 [v] h (.bool (risT xs)) := by
  refine FS.enter Go.Proofs.Tryz.func112 rfl rfl fun w0 => ?_
  refine .seq (.text (.as_ rfl rfl (.done (.thenN ?_))))
  refine .seq (.seq (.text (.as_ rfl rfl (.done (.thenN ?_)))))
  refine .block (?_)
  refine J.loop (fun k : Nat => 1 ≤ k ∧ ∀ i (hi : i < xs.length), i < k → 0 < i → strLt xs[i - 1] xs[i] = true) (fun k => [(0, v), (3, .int .i64 (k : Int))]) (fun _ => h) (fun _ => []) (fun k => xs.length + 1 - k) 1 ⟨by omega, fun i hi h h0 => by omega⟩ (.cons rfl (.cons rfl (.nil _))) rfl rfl ?_
  rintro k ⟨hk1, hall⟩
  refine .seq (.seq (.text (.mv rfl rfl (.mv rfl rfl (.len hx rfl rfl rfl (.cmp rfl rfl rfl rfl (.done (.thenN ?_))))))))
  refine .cond rfl (fun hb2 => ?_) (fun hb2 => ?_)
  ·
    have hk : k < xs.length := by simp [cmpI] at hb2; omega
    refine .skip (.thenN ?_)
    refine .seq (.block (.seq (.draw [(0, .pure), (1, .pure), (2, .pure), (3, .pure), (4, .read), (5, .pure), (6, .pure), (7, .pure), (8, .read), (9, .pure)] rfl (by kernel_rfl) (.mv rfl rfl (.mv rfl rfl (.dec rfl rfl hk1 (by have := hx.len; unfold maxL at this; omega) rfl (.ix (i := k - 1) hx rfl rfl rfl (by omega) rfl (.ldG (i := k - 1) (sz := 1) (off := 0) (.string (xs[k - 1]'(by omega))) hx (by omega) (by rfl) (fun vs e => by obtain rfl := e; rfl) rfl rfl (.mv rfl rfl (.mv rfl rfl (.ix (i := k) hx rfl rfl rfl hk rfl (.ldG (sz := 1) (off := 0) (.string xs[k]) hx hk (by rfl) (fun vs e => by obtain rfl := e; rfl) rfl rfl (.cmpS rfl rfl rfl rfl (.done (.thenN ?_)))))))))))))))
    refine .cond rfl (fun hb4 => ?_) (fun hb4 => ?_)
    ·
      refine .seq (.text (.as_ rfl rfl (.done (.thenN ?_))))
      refine .ret (.blkR (.thenR (.thenR (.blkR (.thenR ?_)))))
      exact J.retV rfl (by simp only [resOne]; rw [risT_false (by omega) hk (by simpa using hb4)])
    ·
      refine .skip (.blkN (.thenN ?_))
      refine .text (.mv rfl rfl (.inc rfl rfl (by have := hx.len; unfold maxL at this; omega) rfl (.as_ rfl rfl (.done (.thenN ?_)))))
      refine J.again (k + 1) (by omega) ⟨by omega, fun i hi hik h0 => ?_⟩ (.cons rfl (.cons rfl (.nil _))) rfl rfl
      by_cases e : i = k
      · subst e; simpa using hb4
      · exact hall i hi (by omega) h0
  ·
    have hk : xs.length ≤ k := by simp [cmpI] at hb2; omega
    refine .exit (.thenE (.thenE (.blkHit (.thenN ?_))))
    refine .seq (.text (.as_ rfl rfl (.done (.thenN ?_))))
    refine .ret ?_
    exact J.retV rfl (by simp only [resOne]; rw [risT_true fun i hi h0 => hall i hi (by omega) h0])

theorem tags01_walk {h : Hp} {v : Value} {xs : List ByteArray} (hx : SlR h 1 RS v xs) : FV Go.Proofs.Tryz.prog 100 [v] h (.bool (tagsB xs)) := by
  refine FS.enter Go.Proofs.Tryz.func100 rfl rfl fun w0 => ?_
  refine .seq (.text (.as_ rfl rfl (.done (.thenN ?_))))
  refine .seq (.seq (.text (.mv rfl rfl (.len hx rfl rfl rfl (.cmp rfl rfl rfl rfl (.mv rfl rfl (.or (d := 11) (g := 7) _ _ (take_drop 4) rfl rfl (fun hb1_4 => .guard rfl rfl rfl rfl (.mv rfl rfl (.guard rfl rfl rfl rfl (.callV rfl rfl (rising01_walk hx) rfl rfl (.guard rfl rfl rfl rfl (.not rfl rfl (.pick rfl rfl rfl rfl ((.done (.thenN (.midB rfl))))))))))) (.guardNo rfl rfl rfl rfl rfl rfl (.guardNo rfl rfl rfl rfl rfl rfl (.guardNo rfl rfl rfl rfl rfl rfl (.pick rfl rfl rfl rfl ((.done (.thenN (.midB rfl)))))))) (.done (.thenN ?_)))))))))
  refine .cond rfl (fun hb1 => ?_) (fun hb1 => ?_)
  ·
    refine .seq (.text (.as_ rfl rfl (.done (.thenN ?_))))
    refine .ret (.thenR ?_)
    refine J.retV rfl ?_
    simp only [resOne]
    have : tagsB xs = false := by
      simp [cmpI] at hb1
      rcases hb1 with q | q
      · exact tagsB_long (by omega)
      · simp [tagsB, q]
    rw [this]
  ·
    have h4 : xs.length ≤ 4 ∧ risT xs = true := by simp [cmpI] at hb1; exact ⟨by omega, by simpa using hb1.2⟩
    refine .skip (.thenN ?_)
    refine .seq (.seq (.text (.as_ rfl rfl (.done (.thenN ?_)))))
    refine .block (?_)
    refine J.loop (fun k : Nat => k ≤ xs.length ∧ ∀ i (hi : i < xs.length), i < k → nameB xs[i] = true) (fun k => [(0, v), (3, .int .i64 (k : Int))]) (fun _ => h) (fun _ => []) (fun k => xs.length - k) 0 ⟨by omega, fun i hi h => by omega⟩ (.cons rfl (.cons rfl (.nil _))) rfl rfl ?_
    rintro k ⟨hk0, hall⟩
    refine .seq (.seq (.text (.mv rfl rfl (.mv rfl rfl (.len hx rfl rfl rfl (.cmp rfl rfl rfl rfl (.done (.thenN ?_))))))))
    refine .cond rfl (fun hb4 => ?_) (fun hb4 => ?_)
    ·
      have hk : k < xs.length := by simp [cmpI] at hb4; omega
      refine .skip (.thenN ?_)
      refine .seq (.block (.seq (.text (.mv rfl rfl (.mv rfl rfl (.ix (i := k) hx rfl rfl rfl hk rfl (.ldG (sz := 1) (off := 0) (.string xs[k]) hx hk (by rfl) (fun vs e => by obtain rfl := e; rfl) rfl rfl (?_))))))))
      refine .callV rfl rfl right01_walk rfl rfl (.not rfl rfl (.done (.thenN ?_)))
      refine .cond rfl (fun hb6 => ?_) (fun hb6 => ?_)
      ·
        refine .seq (.text (.as_ rfl rfl (.done (.thenN ?_))))
        refine .ret (.blkR (.thenR (.thenR (.blkR (.thenR ?_)))))
        exact J.retV rfl (by simp only [resOne]; rw [tagsB_name hk (by simpa using hb6)])
      ·
        refine .skip (.blkN (.thenN ?_))
        refine .text (.mv rfl rfl (.inc rfl rfl (by omega) rfl (.as_ rfl rfl (.done (.thenN ?_)))))
        refine J.again (k + 1) (by omega) ⟨hk, fun i hi hik => ?_⟩ (.cons rfl (.cons rfl (.nil _))) rfl rfl
        by_cases e : i = k
        · subst e; simpa using hb6
        · exact hall i hi (by omega)
    ·
      have hk : k = xs.length := by simp [cmpI] at hb4; omega
      refine .exit (.thenE (.thenE (.blkHit (.thenN ?_))))
      refine .seq (.text (.as_ rfl rfl (.done (.thenN ?_))))
      refine .ret ?_
      refine J.retV rfl ?_
      simp only [resOne]
      have : xs.all nameB = true := by
        rw [List.all_eq_true]; intro x hx; obtain ⟨i, hi, rfl⟩ := List.getElem_of_mem hx; exact hall i hi (by omega)
      have h5 : decide ((xs.length : Int) ≤ 4) = true := decide_eq_true (by omega)
      rw [tagsB, this, h4.2, h5]; rfl
end Go.Sod
