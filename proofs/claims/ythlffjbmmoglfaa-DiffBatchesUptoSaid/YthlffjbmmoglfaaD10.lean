/-
  Chunks, walked. Conditions: none.
-/
import Derived.Test.YthlffjbmmoglfaaD9
namespace Go.Sod
set_option linter.unusedVariables false
set_option linter.unusedSimpArgs false
set_option maxRecDepth 10000
set_option maxHeartbeats 4000000

theorem SlR.cmdN {h : Hp} {v : Value} {xs : List Cmd} (s : SlR h 17 RCmd v xs) : ∃ n, SlR h 17 (RCmdN n) v xs := by
  obtain ⟨A, c, rfl, h2, h3, h4⟩ := s
  have key : ∀ m, m ≤ xs.length → ∃ n, ∀ i (hi : i < xs.length), i < m → ∃ vs, vs.length = 17 ∧ vs.all oneV = true ∧ RCmdN n h xs[i] vs ∧ ElAt h A (i * 17) vs := by
    intro m
    induction m with
    | zero => intro _; exact ⟨0, fun i hi h => by omega⟩
    | succ m ih =>
      intro hm
      obtain ⟨n, hn⟩ := ih (by omega)
      obtain ⟨vs, a1, a2, ⟨n', a3⟩, a4⟩ := h4 m (by omega)
      refine ⟨max n n', fun i hi him => ?_⟩
      by_cases e : i = m
      · subst e; exact ⟨vs, a1, a2, RCmdN.le (Nat.le_max_right ..) a3, a4⟩
      · obtain ⟨ws, b1, b2, b3, b4⟩ := hn i hi (by omega)
        exact ⟨ws, b1, b2, RCmdN.le (Nat.le_max_left ..) b3, b4⟩
  obtain ⟨n, hn⟩ := key xs.length (Nat.le_refl _)
  exact ⟨n, A, c, rfl, h2, h3, fun i hi => hn i hi hi⟩
def chunkN (len n : Nat) : Nat := (len + n - 1) / n
theorem chunkN_lt {len n k : Nat} (hn : 1 ≤ n) : k < chunkN len n ↔ k * n < len := by
  unfold chunkN
  rw [← Nat.succ_le_iff, Nat.le_div_iff_mul_le (by omega), Nat.succ_mul]
  omega
def chunkE (len n k : Nat) : Nat := min (k * n + n) len
def chunkL (xs : List Cmd) (n k : Nat) : List Cmd := (xs.take (chunkE xs.length n k)).drop (k * n)
def chunksV (v : Value) (len n : Nat) : List (List Value) := (List.range (chunkN len n)).map fun k => [cutV v 17 (k * n) (chunkE len n k) (chunkE len n k)]
def batch (l : List Cmd) : Cmd := if l.length = 1 then l.headD (cmd0 0 0) else { cmd0 18 0 with subs := l }
def batTo (xs : List Cmd) (n i : Nat) : List Cmd := (List.range i).map fun k => batch (chunkL xs n k)
theorem batTo_s (xs : List Cmd) (n i : Nat) : batTo xs n (i + 1) = batTo xs n i ++ [batch (chunkL xs n i)] := by simp [batTo, List.range_succ]
theorem batTo_len (xs : List Cmd) (n i : Nat) : (batTo xs n i).length = i := by simp [batTo]
theorem chunkL_len {xs : List Cmd} {n k : Nat} : (chunkL xs n k).length = chunkE xs.length n k - k * n := by simp [chunkL, chunkE]
theorem chunkN_le (len n : Nat) (hn : 1 ≤ n) : chunkN len n ≤ len := by
  unfold chunkN
  rw [Nat.div_le_iff_le_mul_add_pred (by omega)]
  have : len ≤ n * len := Nat.le_mul_of_pos_left _ hn
  omega
theorem batch_txn {h : Hp} {u : Value} {l : List Cmd} (s : SlR h 17 RCmd u l) : RCmd h { cmd0 18 0 with subs := l } (cmdV (cmd0 18 0) nilV u) := by
  obtain ⟨n, s⟩ := s.cmdN
  exact ⟨n + 1, nilV, u, rfl, SlR.nil _ _ _, s⟩
theorem headD_get {l : List Cmd} {d : Cmd} (h : 0 < l.length) : l.headD d = l[0] := by
  cases l with
  | nil => simp at h
  | cons a l => rfl
theorem set_push {α : Type} (xs : List α) (a b : α) : (xs ++ [a]).set xs.length b = xs ++ [b] := by simp

theorem cloneC {h : Hp} {v : Value} {xs : List Cmd} (hx : SlR h 17 RCmd v xs) : FH Go.Proofs.Try.prog 25 [v] h (fun u h' => SlR h' 17 RCmd u xs) := by
  refine FS.enter Go.Proofs.Try.func25 rfl rfl fun w0 => ?_
  obtain ⟨A, c, rfl⟩ := hx.form
  refine .seq (.text (.as_ rfl rfl (.done (.thenN ?_))))
  refine .seq (.seq (.text (.mv rfl rfl (.eqNil rfl rfl (.inl ⟨rfl, rfl⟩) rfl (.done (.thenN ?_))))))
  refine .cond rfl (fun hb1 => ?_) (fun hb1 => ?_)
  ·
    refine .seq (.text (.as_ rfl rfl (.done (.thenN ?_))))
    refine .ret (.thenR ?_)
    obtain rfl : A = none := by cases A <;> simp at hb1 ⊢
    obtain rfl := hx.none
    exact J.retH rfl (SlR.nil _ _ _)
  ·
    refine .skip (.thenN ?_)
    refine .seq (.text (.bs [] rfl rfl rfl rfl (by decide) rfl rfl rfl fun b5 => .mv rfl rfl (.appL (xs := []) rfl ⟨[], SlO.mk rfl (by simp [maxL]), fun i hi => by simp at hi⟩ rfl hx rfl (by simpa using hx.len) rfl rfl fun v m hm => .as_ rfl rfl (.done (.thenN ?_)))))
    refine .ret ?_
    exact J.frz hm RCmd.mono fun h' hl hs => J.retH rfl hs

theorem chunk_walk {h : Hp} {v : Value} {xs : List Cmd} {n : Int} (hx : SlR h 17 RCmd v xs) (hn : 1 ≤ n) : FH Go.Proofs.Try.prog 24 [v, .int .i64 n] h (fun r h' => ∃ B2 B3, r = fnV 39 [ptr0 B2, ptr0 B3] ∧ h' B2 = some (.cells ⟨[v]⟩ 29 (0, 0)) ∧ h' B3 = some (.cells ⟨[.int .i64 n]⟩ 3 (0, 0))) := by
  refine FS.enter Go.Proofs.Try.func24 rfl rfl fun w0 => ?_
  obtain ⟨A, c, rfl⟩ := hx.form
  refine .seq (.text (.box (cs := [_]) rfl rfl rfl rfl fun b2 => .box (cs := [_]) rfl rfl rfl rfl fun b3 => .as_ rfl rfl (.done (.thenN ?_))))
  refine .seq (.seq (.text (.ld rfl rfl rfl rfl (.cmp (b := false) rfl rfl (by simp [cmpI]; omega) rfl (.done (.thenN ?_))))))
  refine .condF rfl ?_
  refine .skip (.thenN ?_)
  refine .seq (.text (.mkF rfl rfl rfl (.as_ rfl rfl (.done (.thenN ?_)))))
  refine .ret ?_
  exact J.frzB fun h1 hl1 e1 => J.frzB fun h2 hl2 e2 => J.retH rfl ⟨_, _, rfl, e2, hl2 _ _ e1⟩

theorem chunk_it {h : Hp} {B2 B3 : Nat} {v : Value} {xs : List Cmd} {n : Nat} (hx : SlR h 17 RCmd v xs) (hn : 1 ≤ n) (hn8 : n ≤ 8) (hB2 : h B2 = some (.cells ⟨[v]⟩ 29 (0, 0))) (hB3 : h B3 = some (.cells ⟨[.int .i64 (n : Int)]⟩ 3 (0, 0))) : IT Go.Proofs.Try.prog 39 [ptr0 B2, ptr0 B3] h (chunksV v xs.length n) := by
  intro l St0 Sx h1 ms hle hy hs0
  obtain ⟨A, c, rfl, hlc, _⟩ := id hx
  refine FS.enter Go.Proofs.Try.func39 rfl rfl fun w0 => ?_
  refine .seq (.text (.as_ rfl rfl (.done (.thenN ?_))))
  refine .block (?_)
  refine J.loop (ι := Nat × Hp × List Hp) (fun i => i.1 ≤ chunkN xs.length n ∧ h.le i.2.1 ∧ St0 i.1 i.2.1 i.2.2) (fun i => [(0, .func (.yield l) #[] #[]), (1, ptr0 B2), (2, ptr0 B3), (4, .int .i64 ((i.1 * n : Nat) : Int))]) (fun i => i.2.1) (fun i => i.2.2) (fun i => chunkN xs.length n - i.1) (0, h1, ms) ⟨Nat.zero_le _, hle, hs0⟩ (.cons rfl (.cons rfl (.cons rfl (.cons (by simp [gt]) (.nil _))))) rfl rfl ?_
  rintro ⟨k, hk, Lk⟩ ⟨hk0, hlk, hS⟩
  dsimp only at hk0 hlk hS ⊢
  have hB2 := hlk _ _ hB2
  have hB3 := hlk _ _ hB3
  have hx := hx.mono RCmd.mono hlk
  haveI : ∀ L, At hk L B2 (.cells ⟨[.slice A xs.length c]⟩ 29 (0, 0)) := fun L => At.ofH hB2
  haveI : ∀ L, At hk L B3 (.cells ⟨[.int .i64 (n : Int)]⟩ 3 (0, 0)) := fun L => At.ofH hB3
  have hlen := hx.len
  unfold maxL at hlen
  refine .seq (.seq (.text (.mv rfl rfl (.ld rfl rfl rfl rfl (.len hx rfl rfl rfl (.cmp rfl rfl rfl rfl (.done (.thenN ?_))))))))
  refine .cond rfl (fun hb1 => ?_) (fun hb1 => ?_)
  ·
    have hkn : k * n < xs.length := by simp [cmpI] at hb1; omega
    have hkK : k < chunkN xs.length n := (chunkN_lt hn).2 hkn
    have hyk := hy k (by simpa [chunksV] using hkK) hk Lk hlk hS
    rw [show (chunksV (.slice A xs.length c) xs.length n)[k]'(by simpa [chunksV] using hkK) = [cutV (.slice A xs.length c) 17 (k * n) (chunkE xs.length n k) (chunkE xs.length n k)] from by simp [chunksV]] at hyk
    have hE : chunkE xs.length n k = min (k * n + n) xs.length := rfl
    have hs1 : (k + 1) * n = k * n + n := Nat.succ_mul k n
    generalize hp : k * n = p at *
    generalize chunkE xs.length n k = q at *
    refine .skip (.thenN ?_)
    refine .seq (.block (.seq (.draw [(0, .read), (1, .read), (2, .pure), (3, .pure), (4, .pure), (5, .pure), (6, .pure)] rfl (by kernel_rfl) (.ld rfl rfl rfl rfl (.ld rfl rfl rfl rfl (.mv rfl rfl (.slR (i := p) (j' := xs.length) hx rfl ⟨_, _, rfl, rfl⟩ rfl (by omega) (Nat.le_refl _) rfl fun v16 hv16 => .len hv16 rfl rfl rfl ?_)))))))
    rw [show ((List.drop p (List.take xs.length xs)).length : Int) = ((xs.length - p : Nat) : Int) from by simp]
    refine .minI rfl rfl rfl (.as_ rfl rfl (.done (.thenN ?_)))
    refine .seq (.text (.mv rfl rfl (.ld rfl rfl rfl rfl (.mv rfl rfl (.mv rfl rfl (.mv rfl rfl (.ar (r := (q : Int)) rfl rfl (by show some _ = _; rw [wrap64_id (by omega) (by omega)]; congr 1; omega) rfl (.mv rfl rfl (.mv rfl rfl (.ar (r := (q : Int)) rfl rfl (by show some _ = _; rw [wrap64_id (by omega) (by omega)]; congr 1; omega) rfl (.sl3 (i := p) (j' := q) rfl rfl rfl rfl rfl rfl rfl (by omega) (by omega) rfl (?_))))))))))))
    refine .yield0 rfl rfl hyk rfl rfl fun b29 h29 ms29 hl29 hR29 => .not rfl rfl (.done (.thenN ?_))
    refine .cond rfl (fun hb4 => ?_) (fun hb4 => ?_)
    ·
      refine .ret (.blkR (.thenR (.thenR (.blkR ?_))))
      rcases hR29 with ⟨e, _⟩ | ⟨_, hX⟩
      · subst e; simp at hb4
      · exact J.retTmp (vs := []) rfl (List.Sublist.refl _) ⟨rfl, .inr hX⟩
    ·
      obtain ⟨rfl, hS'⟩ : b29 = true ∧ St0 (k + 1) h29 ms29 := by
        rcases hR29 with h | ⟨e, _⟩
        · exact h
        · subst e; simp at hb4
      haveI : ∀ L, At h29 L B2 (.cells ⟨[.slice A xs.length c]⟩ 29 (0, 0)) := fun L => At.ofH (hl29 _ _ hB2)
      haveI : ∀ L, At h29 L B3 (.cells ⟨[.int .i64 (n : Int)]⟩ 3 (0, 0)) := fun L => At.ofH (hl29 _ _ hB3)
      refine .skip (.blkN (.thenN ?_))
      refine .text (.mv rfl rfl (.ld rfl rfl rfl rfl (.ar (r := (((k + 1) * n : Nat) : Int)) rfl rfl (by show some _ = _; rw [wrap64_id (by omega) (by omega)]; congr 1; omega) rfl (.as_ rfl rfl (.done (.thenN ?_))))))
      exact J.again (k + 1, h29, ms29) (by simp; omega) ⟨hkK, Hp.le_trans hlk hl29, hS'⟩ (.cons rfl (.cons rfl (.cons rfl (.cons rfl (.nil _))))) rfl rfl
  ·
    refine .exit (.thenE (.thenE (.blkHit ?_)))
    refine J.endN ?_
    have hk' : ¬ k < chunkN xs.length n := fun h => by have := (chunkN_lt hn).1 h; simp [cmpI] at hb1; omega
    obtain rfl : k = chunkN xs.length n := by omega
    refine J.retTmp (vs := []) rfl (List.Sublist.refl _) ⟨rfl, .inl ?_⟩
    rw [show (chunksV (.slice A xs.length c) xs.length n).length = chunkN xs.length n from by simp [chunksV]]
    exact hS
end Go.Sod
