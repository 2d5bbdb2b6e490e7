/-
  The tables' small functions, walked. Conditions: none.
-/
import Derived.Test.YtemcklmfpapmpaaGreatTypes
import Derived.Test.YtemcklmfpapmpaaGreatApi
namespace Go.Sod
set_option linter.unusedVariables false
set_option linter.unusedSimpArgs false
set_option maxRecDepth 10000
set_option maxHeartbeats 4000000
theorem noneNod {tb : Nat} {rv : Value} {most last : Int} {h : Hp} {L : List Hp} [At h L tb (.cells ⟨[.int .i64 most, rv, .int .u64 last]⟩ 111 (0, 0))] (hm : most ≠ 0) : FR Go.Proofs.Tryz.prog 90 [.pointer (some ⟨tb, 0, none⟩)] h L (.bool false) := by
  refine FS.enter Go.Proofs.Tryz.func90 rfl rfl fun w0 => ?_
  refine .seq (.text (.as_ rfl rfl (.done (.thenN ?_))))
  refine .seq (.text (.mv rfl rfl (.eqPtr (b := false) rfl rfl (.inl ⟨rfl, rfl⟩) rfl (.mv rfl rfl (.guard rfl rfl rfl rfl (.mv rfl rfl (.guard rfl rfl rfl rfl (.nilOk rfl rfl (.guard rfl rfl rfl rfl (.fa rfl rfl (.guard rfl rfl rfl rfl (.ld rfl rfl rfl rfl (.guard rfl rfl rfl rfl (.cmp (b := false) rfl rfl (by simp [cmpI, hm]) rfl (.pick rfl rfl rfl rfl (.as_ rfl rfl (.done (.thenN ?_))))))))))))))))))
  refine .ret ?_
  exact J.retR rfl rfl (List.Sublist.refl _)

theorem lastNod {tb : Nat} {rv : Value} {most last : Int} {h : Hp} {L : List Hp} [At h L tb (.cells ⟨[.int .i64 most, rv, .int .u64 last]⟩ 111 (0, 0))] (hm : most ≠ 0) : FR Go.Proofs.Tryz.prog 59 [.pointer (some ⟨tb, 0, none⟩)] h L (.int .u64 last) := by
  refine FS.enter Go.Proofs.Tryz.func59 rfl rfl fun w0 => ?_
  refine .seq (.text (.as_ rfl rfl (.done (.thenN ?_))))
  refine .seq (.seq (.text (.mv rfl rfl (?_))))
  refine .callR rfl rfl (noneNod hm) rfl rfl (.done (.thenN ?_))
  refine .condF rfl ?_
  refine .skip (.thenN ?_)
  refine .seq (.text (.mv rfl rfl (.nilOk rfl rfl (.fa rfl rfl (.ld rfl rfl rfl rfl (.as_ rfl rfl (.done (.thenN ?_))))))))
  refine .ret ?_
  exact J.retR rfl rfl (List.Sublist.refl _)

theorem noneSvc {tb : Nat} {rv : Value} {most last : Int} {h : Hp} {L : List Hp} [At h L tb (.cells ⟨[.int .i64 most, rv, .int .u64 last]⟩ 114 (0, 0))] (hm : most ≠ 0) : FR Go.Proofs.Tryz.prog 91 [.pointer (some ⟨tb, 0, none⟩)] h L (.bool false) := by
  refine FS.enter Go.Proofs.Tryz.func91 rfl rfl fun w0 => ?_
  refine .seq (.text (.as_ rfl rfl (.done (.thenN ?_))))
  refine .seq (.text (.mv rfl rfl (.eqPtr (b := false) rfl rfl (.inl ⟨rfl, rfl⟩) rfl (.mv rfl rfl (.guard rfl rfl rfl rfl (.mv rfl rfl (.guard rfl rfl rfl rfl (.nilOk rfl rfl (.guard rfl rfl rfl rfl (.fa rfl rfl (.guard rfl rfl rfl rfl (.ld rfl rfl rfl rfl (.guard rfl rfl rfl rfl (.cmp (b := false) rfl rfl (by simp [cmpI, hm]) rfl (.pick rfl rfl rfl rfl (.as_ rfl rfl (.done (.thenN ?_))))))))))))))))))
  refine .ret ?_
  exact J.retR rfl rfl (List.Sublist.refl _)

theorem lastSvc {tb : Nat} {rv : Value} {most last : Int} {h : Hp} {L : List Hp} [At h L tb (.cells ⟨[.int .i64 most, rv, .int .u64 last]⟩ 114 (0, 0))] (hm : most ≠ 0) : FR Go.Proofs.Tryz.prog 60 [.pointer (some ⟨tb, 0, none⟩)] h L (.int .u64 last) := by
  refine FS.enter Go.Proofs.Tryz.func60 rfl rfl fun w0 => ?_
  refine .seq (.text (.as_ rfl rfl (.done (.thenN ?_))))
  refine .seq (.seq (.text (.mv rfl rfl (?_))))
  refine .callR rfl rfl (noneSvc hm) rfl rfl (.done (.thenN ?_))
  refine .condF rfl ?_
  refine .skip (.thenN ?_)
  refine .seq (.text (.mv rfl rfl (.nilOk rfl rfl (.fa rfl rfl (.ld rfl rfl rfl rfl (.as_ rfl rfl (.done (.thenN ?_))))))))
  refine .ret ?_
  exact J.retR rfl rfl (List.Sublist.refl _)

theorem noneChk {tb : Nat} {rv : Value} {most last : Int} {h : Hp} {L : List Hp} [At h L tb (.cells ⟨[.int .i64 most, rv, .int .u64 last]⟩ 117 (0, 0))] (hm : most ≠ 0) : FR Go.Proofs.Tryz.prog 88 [.pointer (some ⟨tb, 0, none⟩)] h L (.bool false) := by
  refine FS.enter Go.Proofs.Tryz.func88 rfl rfl fun w0 => ?_
  refine .seq (.text (.as_ rfl rfl (.done (.thenN ?_))))
  refine .seq (.text (.mv rfl rfl (.eqPtr (b := false) rfl rfl (.inl ⟨rfl, rfl⟩) rfl (.mv rfl rfl (.guard rfl rfl rfl rfl (.mv rfl rfl (.guard rfl rfl rfl rfl (.nilOk rfl rfl (.guard rfl rfl rfl rfl (.fa rfl rfl (.guard rfl rfl rfl rfl (.ld rfl rfl rfl rfl (.guard rfl rfl rfl rfl (.cmp (b := false) rfl rfl (by simp [cmpI, hm]) rfl (.pick rfl rfl rfl rfl (.as_ rfl rfl (.done (.thenN ?_))))))))))))))))))
  refine .ret ?_
  exact J.retR rfl rfl (List.Sublist.refl _)

theorem lastChk {tb : Nat} {rv : Value} {most last : Int} {h : Hp} {L : List Hp} [At h L tb (.cells ⟨[.int .i64 most, rv, .int .u64 last]⟩ 117 (0, 0))] (hm : most ≠ 0) : FR Go.Proofs.Tryz.prog 61 [.pointer (some ⟨tb, 0, none⟩)] h L (.int .u64 last) := by
  refine FS.enter Go.Proofs.Tryz.func61 rfl rfl fun w0 => ?_
  refine .seq (.text (.as_ rfl rfl (.done (.thenN ?_))))
  refine .seq (.seq (.text (.mv rfl rfl (?_))))
  refine .callR rfl rfl (noneChk hm) rfl rfl (.done (.thenN ?_))
  refine .condF rfl ?_
  refine .skip (.thenN ?_)
  refine .seq (.text (.mv rfl rfl (.nilOk rfl rfl (.fa rfl rfl (.ld rfl rfl rfl rfl (.as_ rfl rfl (.done (.thenN ?_))))))))
  refine .ret ?_
  exact J.retR rfl rfl (List.Sublist.refl _)


/-- the first place below n of which p says yes; else n -/
def firstN (p : Nat → Bool) (n : Nat) : Nat := (List.range n).findIdx p
theorem firstN_le (p : Nat → Bool) (n : Nat) : firstN p n ≤ n := by
  have := List.findIdx_le_length (xs := List.range n) (p := p)
  simpa [firstN] using this
theorem firstN_eq {p : Nat → Bool} {n k : Nat} (hk : k ≤ n) (h1 : ∀ i, i < k → p i = false) (h2 : k < n → p k = true) : firstN p n = k := by
  unfold firstN
  by_cases h : k < n
  · rw [List.findIdx_eq (by simpa using h)]
    exact ⟨by simpa using h2 h, fun j hj => by simpa using h1 j hj⟩
  · have : k = n := by omega
    subst this
    have : (List.range k).findIdx p = (List.range k).length := by
      rw [List.findIdx_eq_length]
      intro x hx
      exact h1 x (List.mem_range.1 hx)
    simpa using this

theorem search_walk {h : Hp} {L : List Hp} {n fid : Nat} {cap : List Value} {p : Nat → Bool} [Fnc Go.Proofs.Tryz.prog fid] (hn : n ≤ maxL) (hf : ∀ i, i < n → FR Go.Proofs.Tryz.prog fid (.int .i64 (i : Int) :: cap) h L (.bool (p i))) (hmono : ∀ i j, i ≤ j → j < n → p i = true → p j = true) : FR Go.Proofs.Tryz.prog 104 [.int .i64 (n : Int), .func (.func fid) ⟨[]⟩ ⟨cap⟩] h L (.int .i64 (firstN p n : Int)) := by
  unfold maxL at hn
  refine FS.enter Go.Proofs.Tryz.func104 rfl rfl fun w0 => ?_
  refine .seq (.text (.as_ rfl rfl (.done (.thenN ?_))))
  refine .seq (.text (.mv rfl rfl (.as_ rfl rfl (.as_ rfl rfl (.done (.thenN ?_))))))
  refine .seq (.block (?_))
  refine J.loop (ι := Nat × Nat) (fun i => i.1 ≤ i.2 ∧ i.2 ≤ n ∧ (∀ k, k < i.1 → p k = false) ∧ (i.2 < n → p i.2 = true)) (fun i => [(1, .func (.func fid) ⟨[]⟩ ⟨cap⟩), (5, .int .i64 (i.1 : Int)), (6, .int .i64 (i.2 : Int))]) (fun _ => h) (fun _ => L) (fun i => i.2 - i.1) (0, n) ⟨Nat.zero_le _, Nat.le_refl _, fun k hk => by omega, fun h => by omega⟩ (.cons rfl (.cons rfl (.cons rfl (.nil _)))) rfl rfl ?_
  rintro ⟨i, j⟩ ⟨hij, hjn, hlo, hhi⟩
  dsimp only at hij hjn hlo hhi ⊢
  refine .seq (.seq (.text (.mv rfl rfl (.mv rfl rfl (.cmp rfl rfl rfl rfl (.done (.thenN ?_)))))))
  refine .cond rfl (fun hb2 => ?_) (fun hb2 => ?_)
  ·
    have hlt : i < j := by simp [cmpI] at hb2; omega
    refine .skip (.thenN ?_)
    refine .block (.seq (.text (.mv rfl rfl (.mv rfl rfl (.ar (r := ((i + j : Nat) : Int)) rfl rfl (by show some _ = _; rw [wrap64_id (by omega) (by omega)]; congr 1) rfl (.cvE (m := ((i + j : Nat) : Int)) rfl (wrapu64_id (by omega) (by omega)) rfl (.shr1 rfl rfl rfl rfl (.cvE (m := (((i + j) / 2 : Nat) : Int)) rfl (wrap64_id (by omega) (by omega)) rfl (.as_ rfl rfl (.done (.thenN ?_)))))))))))
    refine .seq (.text (.mv rfl rfl (.mv rfl rfl (?_))))
    refine .callR rfl rfl (hf ((i + j) / 2) (by omega)) rfl rfl (.not rfl rfl (.done (.thenN ?_)))
    refine .cond rfl (fun hb4 => ?_) (fun hb4 => ?_)
    ·
      have hp : p ((i + j) / 2) = false := by simpa using hb4
      refine .text (.mv rfl rfl (.inc rfl rfl (by omega) rfl (.as_ rfl rfl (.done (.blkN (.thenN ?_))))))
      refine J.again ((i + j) / 2 + 1, j) (by simp; omega) ⟨by simp; omega, hjn, fun k hk => ?_, hhi⟩ (.cons rfl (.cons rfl (.cons rfl (.nil _)))) rfl rfl
      cases hpk : p k with
      | false => rfl
      | true =>
        have := hmono k ((i + j) / 2) (by simp at hk; omega) (by omega) hpk
        rw [hp] at this; cases this
    ·
      have hp : p ((i + j) / 2) = true := by simpa using hb4
      refine .text (.mv rfl rfl (.as_ rfl rfl (.done (.blkN (.thenN ?_)))))
      exact J.again (i, (i + j) / 2) (by simp; omega) ⟨by simp; omega, by simp; omega, hlo, fun _ => hp⟩ (.cons rfl (.cons rfl (.cons rfl (.nil _)))) rfl rfl
  ·
    have hge : ¬ i < j := by simp [cmpI] at hb2; omega
    refine .exit (.thenE (.thenE (.blkHit (.thenN ?_))))
    refine .seq (.text (.mv rfl rfl (.as_ rfl rfl (.done (.thenN ?_)))))
    refine .ret ?_
    obtain rfl : i = j := by omega
    exact J.retR rfl (by simp only [resOne]; rw [firstN_eq hjn hlo hhi]) (List.Sublist.refl _)


theorem RRow.f0 {α : Type} {R : Rp α} {h : Hp} {r : Row α} {vs : List Value} (e : RRow R h r vs) : vs[0]? = some (.string r.key) := by obtain ⟨ws, rfl, _⟩ := e; rfl
def keyAt {α : Type} (xs : List (Row α)) (k : Nat) : ByteArray := ((xs[k]?).map (·.key)).getD ⟨#[]⟩
theorem keyAt_eq {α : Type} {xs : List (Row α)} {k : Nat} (hk : k < xs.length) : keyAt xs k = xs[k].key := by simp [keyAt, hk]
/-- the keys rise -/
def Srt {α : Type} (xs : List (Row α)) : Prop := ∀ i j, i < j → j < xs.length → strLt (keyAt xs i) (keyAt xs j) = true
def atP {α : Type} (xs : List (Row α)) (key : ByteArray) (k : Nat) : Bool := !strLt (keyAt xs k) key
def atK {α : Type} (xs : List (Row α)) (key : ByteArray) : Nat := firstN (atP xs key) xs.length
def atIs {α : Type} (xs : List (Row α)) (key : ByteArray) : Bool := decide (((atK xs key : Nat) : Int) < (xs.length : Int)) && decide (keyAt xs (atK xs key) = key)
theorem atP_mono {α : Type} {xs : List (Row α)} (hs : Srt xs) (key : ByteArray) : ∀ i j, i ≤ j → j < xs.length → atP xs key i = true → atP xs key j = true := by
  intro i j hij hj h
  by_cases e : i = j
  · subst e; exact h
  · have h1 := hs i j (by omega) hj
    unfold atP at *
    cases h2 : strLt (keyAt xs j) key with
    | false => rfl
    | true => rw [strLt_trans h1 h2] at h; cases h

theorem at1Nod {tb : Nat} {rv : Value} {most last : Int} {h mr : Hp} {F : Hp → List Hp} {L : List Hp} {key : ByteArray} {xs : List (Row Nod)} [At h L tb (.cells ⟨[.int .i64 most, rv, .int .u64 last]⟩ 111 (0, 0))] [HpIn L mr F] {b2 b3 k : Nat} {T2 T3 : TypeId} {fr2 fr3 : Nat × Nat} [At h L b2 (.cells ⟨[.pointer (some ⟨tb, 0, none⟩)]⟩ T2 fr2)] [At h L b3 (.cells ⟨[.string key]⟩ T3 fr3)] (hr : SlT mr h rv 7 119 (RRow RNod) xs) (hk : k < xs.length) : FR Go.Proofs.Tryz.prog 106 [.int .i64 (k : Int), .pointer (some ⟨b2, 0, none⟩), .pointer (some ⟨b3, 0, none⟩)] h L (.bool (atP xs key k)) := by
  refine FS.enter Go.Proofs.Tryz.func106 rfl rfl fun w0 => ?_
  refine .seq (.text (.as_ rfl rfl (.done (.thenN ?_))))
  refine .seq (.draw [(0, .read), (1, .pure), (2, .pure), (3, .read), (4, .pure), (5, .pure), (6, .pure), (7, .read), (8, .read), (9, .pure), (10, .pure)] rfl (by kernel_rfl) (.ld rfl rfl rfl rfl (.nilOk rfl rfl (.fa rfl rfl (.ld rfl rfl rfl rfl (.mv rfl rfl (.ixT (i := k) hr rfl rfl rfl hk rfl (.faE rfl (hr.ne (by omega)) rfl (.ldTF (.string xs[k].key) hr hk rfl (fun vs e => e.f0) rfl rfl (.ld rfl rfl rfl rfl (.cmpS rfl rfl rfl rfl (.as_ rfl rfl (.done (.thenN ?_))))))))))))))
  refine .ret ?_
  exact J.retR rfl (by simp only [resOne]; rw [atP, keyAt_eq hk]) (List.Sublist.refl _)

theorem atNod {tb : Nat} {rv : Value} {most last : Int} {h mr : Hp} {F : Hp → List Hp} {L : List Hp} {key : ByteArray} {xs : List (Row Nod)} [At h L tb (.cells ⟨[.int .i64 most, rv, .int .u64 last]⟩ 111 (0, 0))] [HpIn L mr F] (hr : SlT mr h rv 7 119 (RRow RNod) xs) (hs : Srt xs) : FR Go.Proofs.Tryz.prog 92 [.pointer (some ⟨tb, 0, none⟩), .string key] h L (.tuple ⟨[.int .i64 ((atK xs key : Nat) : Int), .bool (atIs xs key)]⟩) := by
  refine FS.enter Go.Proofs.Tryz.func92 rfl rfl fun w0 => ?_
  refine .seq (.text (.box (cs := [_]) rfl rfl rfl rfl fun b2 => .box (cs := [_]) rfl rfl rfl rfl fun b3 => .as_ rfl rfl (.as_ rfl rfl (.done (.thenN ?_)))))
  refine .seq (.text (.ld rfl rfl rfl rfl (.nilOk rfl rfl (.fa rfl rfl (.ld rfl rfl rfl rfl (.lenT hr rfl rfl rfl (.mkF rfl rfl rfl (?_))))))))
  refine .callR rfl rfl (search_walk hr.len (fun i hi => at1Nod hr hi) (atP_mono hs key)) rfl rfl ?_
  change J _ _ _ ((13, .int .i64 ((atK xs key : Nat) : Int)) :: _) _ _
  refine .as_ rfl rfl (.done (.thenN ?_))
  refine .seq (.draw [(0, .pure), (1, .pure), (2, .read), (3, .pure), (4, .pure), (5, .read), (6, .pure), (7, .pure), (8, .pure), (9, .read), (10, .pure), (11, .pure), (12, .read), (13, .pure), (14, .pure), (15, .pure), (16, .read), (17, .read), (18, .pure), (19, .pure), (20, .pure), (21, .pure)] rfl (by kernel_rfl) (.mv rfl rfl (.mv rfl rfl (.ld rfl rfl rfl rfl (.nilOk rfl rfl (.fa rfl rfl (.ld rfl rfl rfl rfl (.lenT hr rfl rfl rfl (.cmp rfl rfl rfl rfl (.mv rfl rfl (.and (d := 33) (g := 22) _ _ (take_drop 11) rfl rfl (fun hb2_9 => .guard rfl rfl rfl rfl (.ld rfl rfl rfl rfl (.guard rfl rfl rfl rfl (.nilOk rfl rfl (.guard rfl rfl rfl rfl (.fa rfl rfl (.guard rfl rfl rfl rfl (.ld rfl rfl rfl rfl (.guard rfl rfl rfl rfl (.mv rfl rfl (.guard rfl rfl rfl rfl (.ixT (i := atK xs key) hr rfl rfl rfl (by simpa [cmpI] using hb2_9) rfl (.guard rfl rfl rfl rfl (.faE rfl (hr.ne (Nat.lt_of_le_of_lt (Nat.zero_le _) (show atK xs key < xs.length from by simpa [cmpI] using hb2_9))) rfl (.guard rfl rfl rfl rfl (.ldTF (.string (keyAt xs (atK xs key))) hr (by simpa [cmpI] using hb2_9) rfl (fun vs e => by rw [keyAt_eq (by simpa [cmpI] using hb2_9)]; exact e.f0) rfl rfl (.guard rfl rfl rfl rfl (.ld rfl rfl rfl rfl (.guard rfl rfl rfl rfl (.cmpS rfl rfl rfl rfl (.pick rfl rfl rfl rfl ((.done (.thenN (.midB rfl))))))))))))))))))))))))) (.guardNo rfl rfl rfl rfl rfl rfl (.guardNo rfl rfl rfl rfl rfl rfl (.guardNo rfl rfl rfl rfl rfl rfl (.guardNo rfl rfl rfl rfl rfl rfl (.guardNo rfl rfl rfl rfl rfl rfl (.guardNo rfl rfl rfl rfl rfl rfl (.guardNo rfl rfl rfl rfl rfl rfl (.guardNo rfl rfl rfl rfl rfl rfl (.guardNo rfl rfl rfl rfl rfl rfl (.guardNo rfl rfl rfl rfl rfl rfl (.pick rfl rfl rfl rfl ((.done (.thenN (.midB rfl))))))))))))))) (.as_ rfl rfl (.as_ rfl rfl (.done (.thenN ?_)))))))))))))))
  refine .ret ?_
  exact J.retR rfl rfl (.cons _ (.cons _ (List.Sublist.refl _)))

theorem at1Svc {tb : Nat} {rv : Value} {most last : Int} {h mr : Hp} {F : Hp → List Hp} {L : List Hp} {key : ByteArray} {xs : List (Row Svc)} [At h L tb (.cells ⟨[.int .i64 most, rv, .int .u64 last]⟩ 114 (0, 0))] [HpIn L mr F] {b2 b3 k : Nat} {T2 T3 : TypeId} {fr2 fr3 : Nat × Nat} [At h L b2 (.cells ⟨[.pointer (some ⟨tb, 0, none⟩)]⟩ T2 fr2)] [At h L b3 (.cells ⟨[.string key]⟩ T3 fr3)] (hr : SlT mr h rv 10 131 (RRow RSvc) xs) (hk : k < xs.length) : FR Go.Proofs.Tryz.prog 108 [.int .i64 (k : Int), .pointer (some ⟨b2, 0, none⟩), .pointer (some ⟨b3, 0, none⟩)] h L (.bool (atP xs key k)) := by
  refine FS.enter Go.Proofs.Tryz.func108 rfl rfl fun w0 => ?_
  refine .seq (.text (.as_ rfl rfl (.done (.thenN ?_))))
  refine .seq (.draw [(0, .read), (1, .pure), (2, .pure), (3, .read), (4, .pure), (5, .pure), (6, .pure), (7, .read), (8, .read), (9, .pure), (10, .pure)] rfl (by kernel_rfl) (.ld rfl rfl rfl rfl (.nilOk rfl rfl (.fa rfl rfl (.ld rfl rfl rfl rfl (.mv rfl rfl (.ixT (i := k) hr rfl rfl rfl hk rfl (.faE rfl (hr.ne (by omega)) rfl (.ldTF (.string xs[k].key) hr hk rfl (fun vs e => e.f0) rfl rfl (.ld rfl rfl rfl rfl (.cmpS rfl rfl rfl rfl (.as_ rfl rfl (.done (.thenN ?_))))))))))))))
  refine .ret ?_
  exact J.retR rfl (by simp only [resOne]; rw [atP, keyAt_eq hk]) (List.Sublist.refl _)

theorem atSvc {tb : Nat} {rv : Value} {most last : Int} {h mr : Hp} {F : Hp → List Hp} {L : List Hp} {key : ByteArray} {xs : List (Row Svc)} [At h L tb (.cells ⟨[.int .i64 most, rv, .int .u64 last]⟩ 114 (0, 0))] [HpIn L mr F] (hr : SlT mr h rv 10 131 (RRow RSvc) xs) (hs : Srt xs) : FR Go.Proofs.Tryz.prog 96 [.pointer (some ⟨tb, 0, none⟩), .string key] h L (.tuple ⟨[.int .i64 ((atK xs key : Nat) : Int), .bool (atIs xs key)]⟩) := by
  refine FS.enter Go.Proofs.Tryz.func96 rfl rfl fun w0 => ?_
  refine .seq (.text (.box (cs := [_]) rfl rfl rfl rfl fun b2 => .box (cs := [_]) rfl rfl rfl rfl fun b3 => .as_ rfl rfl (.as_ rfl rfl (.done (.thenN ?_)))))
  refine .seq (.text (.ld rfl rfl rfl rfl (.nilOk rfl rfl (.fa rfl rfl (.ld rfl rfl rfl rfl (.lenT hr rfl rfl rfl (.mkF rfl rfl rfl (?_))))))))
  refine .callR rfl rfl (search_walk hr.len (fun i hi => at1Svc hr hi) (atP_mono hs key)) rfl rfl ?_
  change J _ _ _ ((13, .int .i64 ((atK xs key : Nat) : Int)) :: _) _ _
  refine .as_ rfl rfl (.done (.thenN ?_))
  refine .seq (.draw [(0, .pure), (1, .pure), (2, .read), (3, .pure), (4, .pure), (5, .read), (6, .pure), (7, .pure), (8, .pure), (9, .read), (10, .pure), (11, .pure), (12, .read), (13, .pure), (14, .pure), (15, .pure), (16, .read), (17, .read), (18, .pure), (19, .pure), (20, .pure), (21, .pure)] rfl (by kernel_rfl) (.mv rfl rfl (.mv rfl rfl (.ld rfl rfl rfl rfl (.nilOk rfl rfl (.fa rfl rfl (.ld rfl rfl rfl rfl (.lenT hr rfl rfl rfl (.cmp rfl rfl rfl rfl (.mv rfl rfl (.and (d := 33) (g := 22) _ _ (take_drop 11) rfl rfl (fun hb2_9 => .guard rfl rfl rfl rfl (.ld rfl rfl rfl rfl (.guard rfl rfl rfl rfl (.nilOk rfl rfl (.guard rfl rfl rfl rfl (.fa rfl rfl (.guard rfl rfl rfl rfl (.ld rfl rfl rfl rfl (.guard rfl rfl rfl rfl (.mv rfl rfl (.guard rfl rfl rfl rfl (.ixT (i := atK xs key) hr rfl rfl rfl (by simpa [cmpI] using hb2_9) rfl (.guard rfl rfl rfl rfl (.faE rfl (hr.ne (Nat.lt_of_le_of_lt (Nat.zero_le _) (show atK xs key < xs.length from by simpa [cmpI] using hb2_9))) rfl (.guard rfl rfl rfl rfl (.ldTF (.string (keyAt xs (atK xs key))) hr (by simpa [cmpI] using hb2_9) rfl (fun vs e => by rw [keyAt_eq (by simpa [cmpI] using hb2_9)]; exact e.f0) rfl rfl (.guard rfl rfl rfl rfl (.ld rfl rfl rfl rfl (.guard rfl rfl rfl rfl (.cmpS rfl rfl rfl rfl (.pick rfl rfl rfl rfl ((.done (.thenN (.midB rfl))))))))))))))))))))))))) (.guardNo rfl rfl rfl rfl rfl rfl (.guardNo rfl rfl rfl rfl rfl rfl (.guardNo rfl rfl rfl rfl rfl rfl (.guardNo rfl rfl rfl rfl rfl rfl (.guardNo rfl rfl rfl rfl rfl rfl (.guardNo rfl rfl rfl rfl rfl rfl (.guardNo rfl rfl rfl rfl rfl rfl (.guardNo rfl rfl rfl rfl rfl rfl (.guardNo rfl rfl rfl rfl rfl rfl (.guardNo rfl rfl rfl rfl rfl rfl (.pick rfl rfl rfl rfl ((.done (.thenN (.midB rfl))))))))))))))) (.as_ rfl rfl (.as_ rfl rfl (.done (.thenN ?_)))))))))))))))
  refine .ret ?_
  exact J.retR rfl rfl (.cons _ (.cons _ (List.Sublist.refl _)))

theorem at1Chk {tb : Nat} {rv : Value} {most last : Int} {h mr : Hp} {F : Hp → List Hp} {L : List Hp} {key : ByteArray} {xs : List (Row Chk)} [At h L tb (.cells ⟨[.int .i64 most, rv, .int .u64 last]⟩ 117 (0, 0))] [HpIn L mr F] {b2 b3 k : Nat} {T2 T3 : TypeId} {fr2 fr3 : Nat × Nat} [At h L b2 (.cells ⟨[.pointer (some ⟨tb, 0, none⟩)]⟩ T2 fr2)] [At h L b3 (.cells ⟨[.string key]⟩ T3 fr3)] (hr : SlT mr h rv 10 93 (RRow RChk) xs) (hk : k < xs.length) : FR Go.Proofs.Tryz.prog 105 [.int .i64 (k : Int), .pointer (some ⟨b2, 0, none⟩), .pointer (some ⟨b3, 0, none⟩)] h L (.bool (atP xs key k)) := by
  refine FS.enter Go.Proofs.Tryz.func105 rfl rfl fun w0 => ?_
  refine .seq (.text (.as_ rfl rfl (.done (.thenN ?_))))
  refine .seq (.draw [(0, .read), (1, .pure), (2, .pure), (3, .read), (4, .pure), (5, .pure), (6, .pure), (7, .read), (8, .read), (9, .pure), (10, .pure)] rfl (by kernel_rfl) (.ld rfl rfl rfl rfl (.nilOk rfl rfl (.fa rfl rfl (.ld rfl rfl rfl rfl (.mv rfl rfl (.ixT (i := k) hr rfl rfl rfl hk rfl (.faE rfl (hr.ne (by omega)) rfl (.ldTF (.string xs[k].key) hr hk rfl (fun vs e => e.f0) rfl rfl (.ld rfl rfl rfl rfl (.cmpS rfl rfl rfl rfl (.as_ rfl rfl (.done (.thenN ?_))))))))))))))
  refine .ret ?_
  exact J.retR rfl (by simp only [resOne]; rw [atP, keyAt_eq hk]) (List.Sublist.refl _)

theorem atChk {tb : Nat} {rv : Value} {most last : Int} {h mr : Hp} {F : Hp → List Hp} {L : List Hp} {key : ByteArray} {xs : List (Row Chk)} [At h L tb (.cells ⟨[.int .i64 most, rv, .int .u64 last]⟩ 117 (0, 0))] [HpIn L mr F] (hr : SlT mr h rv 10 93 (RRow RChk) xs) (hs : Srt xs) : FR Go.Proofs.Tryz.prog 89 [.pointer (some ⟨tb, 0, none⟩), .string key] h L (.tuple ⟨[.int .i64 ((atK xs key : Nat) : Int), .bool (atIs xs key)]⟩) := by
  refine FS.enter Go.Proofs.Tryz.func89 rfl rfl fun w0 => ?_
  refine .seq (.text (.box (cs := [_]) rfl rfl rfl rfl fun b2 => .box (cs := [_]) rfl rfl rfl rfl fun b3 => .as_ rfl rfl (.as_ rfl rfl (.done (.thenN ?_)))))
  refine .seq (.text (.ld rfl rfl rfl rfl (.nilOk rfl rfl (.fa rfl rfl (.ld rfl rfl rfl rfl (.lenT hr rfl rfl rfl (.mkF rfl rfl rfl (?_))))))))
  refine .callR rfl rfl (search_walk hr.len (fun i hi => at1Chk hr hi) (atP_mono hs key)) rfl rfl ?_
  change J _ _ _ ((13, .int .i64 ((atK xs key : Nat) : Int)) :: _) _ _
  refine .as_ rfl rfl (.done (.thenN ?_))
  refine .seq (.draw [(0, .pure), (1, .pure), (2, .read), (3, .pure), (4, .pure), (5, .read), (6, .pure), (7, .pure), (8, .pure), (9, .read), (10, .pure), (11, .pure), (12, .read), (13, .pure), (14, .pure), (15, .pure), (16, .read), (17, .read), (18, .pure), (19, .pure), (20, .pure), (21, .pure)] rfl (by kernel_rfl) (.mv rfl rfl (.mv rfl rfl (.ld rfl rfl rfl rfl (.nilOk rfl rfl (.fa rfl rfl (.ld rfl rfl rfl rfl (.lenT hr rfl rfl rfl (.cmp rfl rfl rfl rfl (.mv rfl rfl (.and (d := 33) (g := 22) _ _ (take_drop 11) rfl rfl (fun hb2_9 => .guard rfl rfl rfl rfl (.ld rfl rfl rfl rfl (.guard rfl rfl rfl rfl (.nilOk rfl rfl (.guard rfl rfl rfl rfl (.fa rfl rfl (.guard rfl rfl rfl rfl (.ld rfl rfl rfl rfl (.guard rfl rfl rfl rfl (.mv rfl rfl (.guard rfl rfl rfl rfl (.ixT (i := atK xs key) hr rfl rfl rfl (by simpa [cmpI] using hb2_9) rfl (.guard rfl rfl rfl rfl (.faE rfl (hr.ne (Nat.lt_of_le_of_lt (Nat.zero_le _) (show atK xs key < xs.length from by simpa [cmpI] using hb2_9))) rfl (.guard rfl rfl rfl rfl (.ldTF (.string (keyAt xs (atK xs key))) hr (by simpa [cmpI] using hb2_9) rfl (fun vs e => by rw [keyAt_eq (by simpa [cmpI] using hb2_9)]; exact e.f0) rfl rfl (.guard rfl rfl rfl rfl (.ld rfl rfl rfl rfl (.guard rfl rfl rfl rfl (.cmpS rfl rfl rfl rfl (.pick rfl rfl rfl rfl ((.done (.thenN (.midB rfl))))))))))))))))))))))))) (.guardNo rfl rfl rfl rfl rfl rfl (.guardNo rfl rfl rfl rfl rfl rfl (.guardNo rfl rfl rfl rfl rfl rfl (.guardNo rfl rfl rfl rfl rfl rfl (.guardNo rfl rfl rfl rfl rfl rfl (.guardNo rfl rfl rfl rfl rfl rfl (.guardNo rfl rfl rfl rfl rfl rfl (.guardNo rfl rfl rfl rfl rfl rfl (.guardNo rfl rfl rfl rfl rfl rfl (.guardNo rfl rfl rfl rfl rfl rfl (.pick rfl rfl rfl rfl ((.done (.thenN (.midB rfl))))))))))))))) (.as_ rfl rfl (.as_ rfl rfl (.done (.thenN ?_)))))))))))))))
  refine .ret ?_
  exact J.retR rfl rfl (.cons _ (.cons _ (List.Sublist.refl _)))
end Go.Sod
