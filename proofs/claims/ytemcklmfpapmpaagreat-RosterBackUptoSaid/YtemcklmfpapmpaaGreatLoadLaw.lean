/-
  Loading: what the program's loader does, what the document's does; the plain law of it. Conditions: none.
-/
import Derived.Test.YtemcklmfpapmpaaGreatRosLaw
namespace Go.Sod
set_option linter.unusedVariables false
set_option linter.unusedSimpArgs false

/-- one of the three tables, to be loaded -/
structure Stg (α : Type) where
  kf : α → ByteArray
  right : α → Bool
  made : α → Int
  ix : α → Int
  E : Rst → α → Int
  N : Rst → α → Int → Rst
  E' : Rrf → α → Int
  W' : Rrf → α → Int → Rrf
  pb : α → α → Bool
def stgN : Stg Nod := ⟨fun x => digitS x.node, fun x => rightN x.node, (·.made), (·.ix), fun R x => nodeE R x.node x.addr, fun R x i => nodeR R x.node x.addr i, fun W x => rfNodeE W x.node x.addr, fun W x i => rfNodeW W x.node x.addr i, fun y x => decide (x.node ≤ y.node)⟩
def stgS : Stg Svc := ⟨fun x => keyS x.node x.id, fun x => rightN x.node, (·.made), (·.ix), fun R x => svcE R x, fun R x i => svcR R x i, fun W x => rfSvcE W x, fun W x i => rfSvcW W x i, fun y x => decide (x.node < y.node) || (decide (y.node = x.node) && !strLt y.id x.id)⟩
def stgC : Stg Chk := ⟨fun x => keyS x.node x.id, fun x => rightN x.node, (·.made), (·.ix), fun R x => chkE R x, fun R x i => chkR R x i, fun W x => rfChkE W x, fun W x i => rfChkW W x i, fun y x => decide (x.node < y.node) || (decide (y.node = x.node) && !strLt y.id x.id)⟩

abbrev Ld := Rst × ByteArray × Bool
def ldBad {α : Type} (S : Stg α) (last : Int) (L : Ld) (x : α) : Bool := ((L.2.2 || (strLt (S.kf x) L.2.1 || decide (S.kf x = L.2.1))) || decide (S.ix x < S.made x)) || decide (last < S.ix x)
def ldTwo (E : Rst → Int) (N : Rst → Int → Rst) (R : Rst) (made ix : Int) : Rst := if (!decide (E R = 0)) = true then N R made else N (N R made) ix
def ldWr (E : Rst → Int) (N : Rst → Int → Rst) (R : Rst) (made : Int) : Bool := !decide (E R = 0) || !decide (E (N R made) = 0)
def ldStep {α : Type} (S : Stg α) (last : Int) (L : Ld) (x : α) : Ld := if ldBad S last L x = true then (L.1, L.2.1, true) else (ldTwo (S.E · x) (S.N · x ·) L.1 (S.made x) (S.ix x), S.kf x, ldWr (S.E · x) (S.N · x ·) L.1 (S.made x))
def ldGo {α : Type} (S : Stg α) (last : Int) : List α → Ld → Option Ld
  | [], L => some L
  | x :: xs, L => if (!S.right x) = true then none else ldGo S last xs (ldStep S last L x)
def pbO {α : Type} (S : Stg α) : Option α → α → Bool
  | none, _ => false
  | some y, x => S.pb y x
def rfBad {α : Type} (S : Stg α) (last : Int) (prev : Option α) (x : α) (W : Rrf) : Bool := ((((pbO S prev x) || decide (S.ix x < S.made x)) || decide (last < S.ix x)) || !decide (S.E' W x = 0)) || !decide (S.E' (S.W' W x (S.made x)) x = 0)
def rfGo {α : Type} (S : Stg α) (last : Int) : Option α → List α → Rrf → Option Rrf
  | _, [], W => some W
  | prev, x :: xs, W => if rfBad S last prev x W = true then none else rfGo S last (some x) xs (S.W' (S.W' W x (S.made x)) x (S.ix x))
/-- the one ahead of a place -/
def prevO {α : Type} (xs : List α) : Nat → Option α
  | 0 => none
  | k + 1 => xs[k]?

structure StgOk {α : Type} (S : Stg α) : Prop where
  e : ∀ R x, RKey R → RWf R → S.E' (tellR R) x = S.E R x
  w : ∀ R x i, RKey R → RWf R → S.W' (tellR R) x i = tellR (S.N R x i)
  wf : ∀ R x i, RWf R → RWf (S.N R x i)
  key : ∀ R x i, RKey R → RKey (S.N R x i)
  out : ∀ W x, S.right x = false → S.E' W x ≠ 0
  ne : ∀ x, S.kf x ≠ ⟨#[]⟩
  pb : ∀ x y, S.right x = true → S.right y = true → S.pb y x = (strLt (S.kf x) (S.kf y) || decide (S.kf x = S.kf y))

theorem strLt_nil (a : ByteArray) : strLt a ⟨#[]⟩ = false := by
  unfold strLt
  have : (⟨#[]⟩ : ByteArray).toList = [] := by rw [ByteArray.toList_eq]
  rw [this]
  cases a.toList <;> rfl
theorem stgN_ok : StgOk stgN where
  e R x k w := nodeE_tell k w
  w R x i k w := nodeR_tell k w
  wf R x i w := nodeR_wf w
  key R x i k := nodeR_key k
  out W x h := by
    have h : rightN x.node = false := h
    show rfNodeE W x.node x.addr ≠ 0
    unfold rfNodeE
    rw [right_out, h]; simp
  ne x h := by
    have := congrArg ByteArray.size h
    cases this
  pb x y hx hy := by
    have hx : rightN x.node = true := hx
    have hy : rightN y.node = true := hy
    show decide (x.node ≤ y.node) = (strLt (digitS x.node) (digitS y.node) || decide (digitS x.node = digitS y.node))
    rw [digitS_lt hx hy, decide_eq_decide.2 (digitS_inj hx hy), ← Bool.decide_or]
    exact decide_eq_decide.2 (by omega)
theorem nil_list : (⟨#[]⟩ : ByteArray).toList = [] := by rw [ByteArray.toList_eq]
theorem keyS_ne (n : Int) (id : ByteArray) : keyS n id ≠ ⟨#[]⟩ := fun h => by
  have := congrArg ByteArray.toList h
  rw [keyS_list, nil_list] at this
  cases this
theorem pb_key {n m : Int} {a b : ByteArray} (hx : rightN n = true) (hy : rightN m = true) : (decide (n < m) || (decide (m = n) && !strLt b a)) = (strLt (keyS n a) (keyS m b) || decide (keyS n a = keyS m b)) := by
  rw [keyS_lt hx hy, decide_eq_decide.2 (keyS_inj hx hy), Bool.decide_and, decide_eq_decide.2 (eq_comm (a := m) (b := n)), ← strLt_gt a b]
  cases decide (n < m) <;> cases decide (n = m) <;> simp
theorem stgS_ok : StgOk stgS where
  e R x k w := svcE_tell k w
  w R x i k w := svcR_tell k w
  wf R x i w := svcR_wf w
  key R x i k := svcR_key k
  out W x h := by
    have h : rightN x.node = false := h
    show rfSvcE W x ≠ 0
    have : rfErrS W x = 2 := by unfold rfErrS; rw [right_out, h]; rfl
    unfold rfSvcE
    rw [this]; simp
  ne x := keyS_ne _ _
  pb x y hx hy := pb_key hx hy
theorem stgC_ok : StgOk stgC where
  e R x k w := chkE_tell k w
  w R x i k w := chkR_tell k w
  wf R x i w := chkR_wf w
  key R x i k := chkR_key k
  out W x h := by
    have h : rightN x.node = false := h
    show rfChkE W x ≠ 0
    have : rfErrC W x = 2 := by unfold rfErrC; rw [right_out, h]; rfl
    unfold rfChkE
    rw [this]; simp
  ne x := keyS_ne _ _
  pb x y hx hy := pb_key hx hy

section
variable {α : Type} {S : Stg α} {last : Int}
theorem ldGo_wrong : ∀ (xs : List α) (R : Rst) (key : ByteArray), ldGo S last xs (R, key, true) = none ∨ ldGo S last xs (R, key, true) = some (R, key, true) := by
  intro xs
  induction xs with
  | nil => intro R key; exact .inr rfl
  | cons x xs ih =>
    intro R key
    unfold ldGo
    split
    · exact .inl rfl
    · have : ldStep S last (R, key, true) x = (R, key, true) := by simp [ldStep, ldBad]
      rw [this]; exact ih R key
/-- **The loader does what the document's does.** -/
theorem ldGo_rfGo (ok : StgOk S) : ∀ (xs : List α) (prev : Option α) (R : Rst) (key : ByteArray), RKey R → RWf R → (match prev with | none => key = ⟨#[]⟩ | some y => S.right y = true ∧ key = S.kf y) →
    match rfGo S last prev xs (tellR R) with
    | some W => ∃ R' key', ldGo S last xs (R, key, false) = some (R', key', false) ∧ tellR R' = W ∧ RKey R' ∧ RWf R'
    | none => ldGo S last xs (R, key, false) = none ∨ ∃ R' key', ldGo S last xs (R, key, false) = some (R', key', true) := by
  intro xs
  induction xs with
  | nil => intro prev R key k w _; exact ⟨R, key, rfl, rfl, k, w⟩
  | cons x xs ih =>
    intro prev R key k w hp
    have hwr : ∀ (R : Rst) (key : ByteArray), ldGo S last xs (R, key, true) = none ∨ ∃ R' key', ldGo S last xs (R, key, true) = some (R', key', true) := fun R key => (ldGo_wrong xs R key).imp id fun h => ⟨R, key, h⟩
    unfold ldGo rfGo
    cases hr : S.right x with
    | false =>
      have hb : rfBad S last prev x (tellR R) = true := by
        have := ok.out (tellR R) x hr
        simp [rfBad, this]
      rw [if_pos hb]
      exact .inl rfl
    | true =>
      simp only [Bool.not_true, Bool.false_eq_true, if_false]
      have hpb : pbO S prev x = (strLt (S.kf x) key || decide (S.kf x = key)) := by
        cases prev with
        | none => simp only at hp; subst hp; simp [pbO, strLt_nil, ok.ne x]
        | some y => simp only at hp; obtain ⟨hy, rfl⟩ := hp; exact ok.pb x y hr hy
      have he := ok.e R x k w
      have he2 : S.E' (S.W' (tellR R) x (S.made x)) x = S.E (S.N R x (S.made x)) x := by rw [ok.w R x _ k w, ok.e _ x (ok.key R x _ k) (ok.wf R x _ w)]
      have hbad : rfBad S last prev x (tellR R) = (ldBad S last (R, key, false) x || ldWr (S.E · x) (S.N · x ·) R (S.made x)) := by
        unfold rfBad ldBad ldWr
        rw [hpb, he, he2]
        simp only [Bool.false_or, Bool.or_assoc]
      rw [hbad]
      cases h1 : ldBad S last (R, key, false) x with
      | true =>
        have : ldStep S last (R, key, false) x = (R, key, true) := by simp [ldStep, h1]
        rw [this]
        simp only [Bool.true_or, if_true]
        exact hwr R key
      | false =>
        have hst : ldStep S last (R, key, false) x = (ldTwo (S.E · x) (S.N · x ·) R (S.made x) (S.ix x), S.kf x, ldWr (S.E · x) (S.N · x ·) R (S.made x)) := by simp [ldStep, h1]
        rw [hst]
        cases h2 : ldWr (S.E · x) (S.N · x ·) R (S.made x) with
        | true => simp only [Bool.or_true, if_true]; exact hwr _ _
        | false =>
          simp only [Bool.or_false, Bool.false_eq_true, if_false]
          have hE : (!decide (S.E R x = 0)) = false := by
            unfold ldWr at h2
            exact (Bool.or_eq_false_iff.1 h2).1
          have htwo : ldTwo (S.E · x) (S.N · x ·) R (S.made x) (S.ix x) = S.N (S.N R x (S.made x)) x (S.ix x) := by unfold ldTwo; rw [if_neg (ifn hE)]
          rw [htwo, ok.w R x _ k w, ok.w _ x _ (ok.key R x _ k) (ok.wf R x _ w)]
          exact ih (some x) _ _ (ok.key _ x _ (ok.key R x _ k)) (ok.wf _ x _ (ok.wf R x _ w)) ⟨hr, rfl⟩
end

/-! ### What is loaded is what was told -/
structure StgL {α : Type} (S : Stg α) (ls : Rrf → List α) where
  same : α → α → Bool
  gt : α → α → Bool
  setM : α → α → α
  mkx : α → Int → α
  lt : α → α → Prop
  ins : ∀ W x i, S.E' W x = 0 → ls (S.W' W x i) = insI (same x) (gt x) setM (ls W) (mkx x i)
  low : ∀ x y, lt y x → same x y = false ∧ gt x y = false
  tr : ∀ x y z, lt x y → lt y z → lt x z
  here : ∀ x i, same x (mkx x i) = true
  back : ∀ x, setM (mkx x (S.ix x)) (mkx x (S.made x)) = x
  pb : ∀ x y, S.pb y x = false → lt y x
theorem rfGo_told {α : Type} {S : Stg α} {ls : Rrf → List α} (T : StgL S ls) {last : Int} : ∀ (xs : List α) (prev : Option α) (W W1 : Rrf), (∀ y, y ∈ ls W → ∃ p, prev = some p ∧ (y = p ∨ T.lt y p)) → rfGo S last prev xs W = some W1 → ls W1 = ls W ++ xs := by
  intro xs
  induction xs with
  | nil => intro prev W W1 _ h; cases h; simp
  | cons x xs ih =>
    intro prev W W1 hp h
    unfold rfGo at h
    split at h
    · cases h
    · rename_i hb
      have hb : rfBad S last prev x W = false := by simpa using hb
      unfold rfBad at hb
      simp only [Bool.or_eq_false_iff, Bool.not_eq_false', decide_eq_true_eq] at hb
      obtain ⟨⟨⟨⟨b1, b2⟩, b3⟩, b4⟩, b5⟩ := hb
      have hall : ∀ y, y ∈ ls W → T.lt y x := fun y hy => by
        obtain ⟨p, rfl, h1⟩ := hp y hy
        have hpx := T.pb x p b1
        rcases h1 with rfl | h1
        · exact hpx
        · exact T.tr _ _ _ h1 hpx
      have e1 : ls (S.W' W x (S.made x)) = ls W ++ [T.mkx x (S.made x)] := by
        rw [T.ins W x _ b4]
        have := insI_new (same := T.same x) (gt := T.gt x) (setM := T.setM) (A := ls W) (B := []) (c := T.mkx x (S.made x)) (fun y hy => T.low x y (hall y hy)) (fun y hy => by cases hy)
        simpa using this
      have e2 : ls (S.W' (S.W' W x (S.made x)) x (S.ix x)) = ls W ++ [x] := by
        rw [T.ins _ x _ b5, e1, insI_here (fun y hy => T.low x y (hall y hy)) (T.here x _) (fun y hy => by cases hy), T.back]
      have := ih (some x) _ W1 (fun y hy => by
        rw [e2] at hy
        rcases List.mem_append.1 hy with hy | hy
        · exact ⟨x, rfl, .inr (hall y hy)⟩
        · exact ⟨x, rfl, .inl (by simpa using hy)⟩) h
      rw [this, e2]; simp
def stgLN : StgL stgN (·.nodes) where
  same x := sameN x.node
  gt x := gtN x.node
  setM := setMN
  mkx x i := ⟨x.node, x.addr, i, i⟩
  lt y x := y.node < x.node
  ins W x i h := by
    show (rfNodeW W x.node x.addr i).nodes = _
    have h : rfNodeE W x.node x.addr = 0 := h
    unfold rfNodeE at h
    unfold rfNodeW
    split at h; · cases h
    split at h; · cases h
    split at h; · cases h
    rename_i h1 h2 h3
    rw [if_neg h1, if_neg h2, if_neg h3]
  low x y h := ⟨decide_eq_false (by omega), decide_eq_false (by omega)⟩
  tr x y z := Int.lt_trans
  here x i := decide_eq_true rfl
  back x := rfl
  pb x y h := by have := of_decide_eq_false h; omega
def ltSI (n : Int) (a : ByteArray) (m : Int) (b : ByteArray) : Prop := n < m ∨ (n = m ∧ strLt a b = true)
theorem ltSI_low {n m : Int} {a b : ByteArray} (h : ltSI n a m b) : (decide (n = m) && decide (a = b)) = false ∧ (decide (m < n) || (decide (n = m) && !(strLt a b || decide (a = b)))) = false := by
  rcases h with h | ⟨rfl, h⟩
  · have h1 : decide (n = m) = false := decide_eq_false (by omega)
    have h2 : decide (m < n) = false := decide_eq_false (by omega)
    simp [h1, h2]
  · have h1 : decide (a = b) = false := decide_eq_false (strLt_ne h)
    have h2 : decide (n < n) = false := decide_eq_false (by omega)
    simp [h1, h2, h]
theorem ltSI_tr {n m k : Int} {a b c : ByteArray} (h1 : ltSI n a m b) (h2 : ltSI m b k c) : ltSI n a k c := by
  unfold ltSI at *
  rcases h1 with h1 | ⟨rfl, h1⟩ <;> rcases h2 with h2 | ⟨rfl, h2⟩
  · exact .inl (by omega)
  · exact .inl h1
  · exact .inl h2
  · exact .inr ⟨rfl, strLt_trans h1 h2⟩
theorem ltSI_pb {n m : Int} {a b : ByteArray} (h : (decide (m < n) || (decide (n = m) && !strLt a b)) = false) : ltSI n a m b := by
  simp only [Bool.or_eq_false_iff, decide_eq_false_iff_not, Bool.and_eq_false_imp, decide_eq_true_eq, Bool.not_eq_false'] at h
  by_cases e : n = m
  · exact .inr ⟨e, h.2 e⟩
  · exact .inl (by omega)
def stgLS : StgL stgS (·.services) where
  same x := sameS x.node x.id
  gt x := gtS x.node x.id
  setM := setMS
  mkx x i := { x with made := i, ix := i }
  lt y x := ltSI y.node y.id x.node x.id
  ins W x i h := by
    show (rfSvcW W x i).services = _
    have h : rfSvcE W x = 0 := h
    unfold rfSvcE at h
    unfold rfSvcW
    split at h
    · rename_i h0
      split at h; · cases h
      rename_i h1
      rw [if_pos h0, if_neg h1]
    · rename_i h0; exact absurd h h0
  low x y h := ltSI_low h
  tr x y z := ltSI_tr
  here x i := by simp [sameS]
  back x := rfl
  pb x y h := ltSI_pb h
def stgLC : StgL stgC (·.checks) where
  same x := sameC x.node x.id
  gt x := gtC x.node x.id
  setM := setMC
  mkx x i := { x with made := i, ix := i }
  lt y x := ltSI y.node y.id x.node x.id
  ins W x i h := by
    show (rfChkW W x i).checks = _
    have h : rfChkE W x = 0 := h
    unfold rfChkE at h
    unfold rfChkW
    split at h
    · rename_i h0
      split at h; · cases h
      rename_i h1
      rw [if_pos h0, if_neg h1]
    · rename_i h0; exact absurd h h0
  low x y h := ltSI_low h
  tr x y z := ltSI_tr
  here x i := by simp [sameC]
  back x := rfl
  pb x y h := ltSI_pb h

/-! ### The last indexes -/
theorem rfGo_keeps {α β : Type} {S : Stg α} {p : Rrf → β} (hk : ∀ W x i, p (S.W' W x i) = p W) {last : Int} : ∀ (xs : List α) (prev : Option α) (W W1 : Rrf), rfGo S last prev xs W = some W1 → p W1 = p W := by
  intro xs
  induction xs with
  | nil => intro prev W W1 h; cases h; rfl
  | cons x xs ih =>
    intro prev W W1 h
    unfold rfGo at h
    split at h
    · cases h
    · rw [ih _ _ _ h, hk, hk]
theorem rfGo_last {α : Type} {S : Stg α} {p : Rrf → Int} (hk : ∀ W x i, p (S.W' W x i) = p W ∨ p (S.W' W x i) = max (p W) i) {last : Int} : ∀ (xs : List α) (prev : Option α) (W W1 : Rrf), p W ≤ last → rfGo S last prev xs W = some W1 → p W1 ≤ last := by
  intro xs
  induction xs with
  | nil => intro prev W W1 h0 h; cases h; exact h0
  | cons x xs ih =>
    intro prev W W1 h0 h
    unfold rfGo at h
    split at h
    · cases h
    · rename_i hb
      have hb : rfBad S last prev x W = false := by simpa using hb
      unfold rfBad at hb
      simp only [Bool.or_eq_false_iff, decide_eq_false_iff_not] at hb
      obtain ⟨⟨⟨⟨b1, b2⟩, b3⟩, b4⟩, b5⟩ := hb
      refine ih _ _ _ ?_ h
      rcases hk W x (S.made x) with e | e <;> rcases hk (S.W' W x (S.made x)) x (S.ix x) with e' | e' <;> rw [e', e] <;> omega
theorem rfNodeW_keep (W : Rrf) (n : Int) (a : ByteArray) (i : Int) : (rfNodeW W n a i).services = W.services ∧ (rfNodeW W n a i).checks = W.checks ∧ (rfNodeW W n a i).l1 = W.l1 ∧ (rfNodeW W n a i).l2 = W.l2 ∧ ((rfNodeW W n a i).l0 = W.l0 ∨ (rfNodeW W n a i).l0 = max W.l0 i) := by
  unfold rfNodeW
  split
  · exact ⟨rfl, rfl, rfl, rfl, .inl rfl⟩
  split
  · exact ⟨rfl, rfl, rfl, rfl, .inl rfl⟩
  split
  · exact ⟨rfl, rfl, rfl, rfl, .inl rfl⟩
  · exact ⟨rfl, rfl, rfl, rfl, .inr rfl⟩
theorem rfSvcW_keep (W : Rrf) (s : Svc) (i : Int) : (rfSvcW W s i).nodes = W.nodes ∧ (rfSvcW W s i).checks = W.checks ∧ (rfSvcW W s i).l0 = W.l0 ∧ (rfSvcW W s i).l2 = W.l2 ∧ ((rfSvcW W s i).l1 = W.l1 ∨ (rfSvcW W s i).l1 = max W.l1 i) := by
  unfold rfSvcW
  split
  · split
    · exact ⟨rfl, rfl, rfl, rfl, .inl rfl⟩
    · exact ⟨rfl, rfl, rfl, rfl, .inr rfl⟩
  · exact ⟨rfl, rfl, rfl, rfl, .inl rfl⟩
theorem rfChkW_keep (W : Rrf) (s : Chk) (i : Int) : (rfChkW W s i).nodes = W.nodes ∧ (rfChkW W s i).services = W.services ∧ (rfChkW W s i).l0 = W.l0 ∧ (rfChkW W s i).l1 = W.l1 ∧ ((rfChkW W s i).l2 = W.l2 ∨ (rfChkW W s i).l2 = max W.l2 i) := by
  unfold rfChkW
  split
  · split
    · exact ⟨rfl, rfl, rfl, rfl, .inl rfl⟩
    · exact ⟨rfl, rfl, rfl, rfl, .inr rfl⟩
  · exact ⟨rfl, rfl, rfl, rfl, .inl rfl⟩

/-! ### The whole -/
def loadP (most : Int) (ns : List Nod) (ss : List Svc) (cs : List Chk) (l0 l1 l2 : Int) : Option Rst :=
  match ldGo stgN l0 ns (rst0 (min (max most 1) 64), ⟨#[]⟩, false) with
  | none => none
  | some L1 => match ldGo stgS l1 ss (L1.1, ⟨#[]⟩, L1.2.2) with
    | none => none
    | some L2 => match ldGo stgC l2 cs (L2.1, ⟨#[]⟩, L2.2.2) with
      | none => none
      | some L3 => if L3.2.2 = true then none else some { L3.1 with l0 := max L3.1.l0 l0, l1 := max L3.1.l1 l1, l2 := max L3.1.l2 l2 }
def loadW (most : Int) (ns : List Nod) (ss : List Svc) (cs : List Chk) (l0 l1 l2 : Int) : Option Rrf :=
  match rfGo stgN l0 none ns ⟨clampM most, [], [], [], 0, 0, 0⟩ with
  | none => none
  | some W1 => match rfGo stgS l1 none ss W1 with
    | none => none
    | some W2 => match rfGo stgC l2 none cs W2 with
      | none => none
      | some W3 => some { W3 with l0 := l0, l1 := l1, l2 := l2 }
theorem load_law {most : Int} {ns : List Nod} {ss : List Svc} {cs : List Chk} {l0 l1 l2 : Int} (h0 : 0 ≤ l0) (h1 : 0 ≤ l1) (h2 : 0 ≤ l2) :
    match loadW most ns ss cs l0 l1 l2 with
    | none => loadP most ns ss cs l0 l1 l2 = none
    | some W => ∃ R, loadP most ns ss cs l0 l1 l2 = some R ∧ tellR R = W ∧ RKey R ∧ RWf R ∧ W.nodes = ns ∧ W.services = ss ∧ W.checks = cs := by
  unfold loadW loadP
  have hm : RWf (rst0 (min (max most 1) 64)) := rst0_wf (by omega) (by omega)
  have s1 := ldGo_rfGo (last := l0) stgN_ok ns none (rst0 (min (max most 1) 64)) ⟨#[]⟩ (rst0_key _) hm rfl
  have ht : tellR (rst0 (min (max most 1) 64)) = ⟨clampM most, [], [], [], 0, 0, 0⟩ := by rw [clampM_eq]; rfl
  rw [ht] at s1
  have dead : ∀ (R : Rst) (key : ByteArray), (match ldGo stgS l1 ss (R, ⟨#[]⟩, true) with | none => none | some L2 => match ldGo stgC l2 cs (L2.1, ⟨#[]⟩, L2.2.2) with | none => none | some L3 => if L3.2.2 = true then none else some { L3.1 with l0 := max L3.1.l0 l0, l1 := max L3.1.l1 l1, l2 := max L3.1.l2 l2 }) = (none : Option Rst) := by
    intro R key
    rcases ldGo_wrong (S := stgS) (last := l1) ss R ⟨#[]⟩ with e | e <;> rw [e]
    dsimp only
    rcases ldGo_wrong (S := stgC) (last := l2) cs R ⟨#[]⟩ with e | e <;> rw [e]
    rfl
  have dead2 : ∀ (R : Rst) (key : ByteArray), (match ldGo stgC l2 cs (R, ⟨#[]⟩, true) with | none => none | some L3 => if L3.2.2 = true then none else some { L3.1 with l0 := max L3.1.l0 l0, l1 := max L3.1.l1 l1, l2 := max L3.1.l2 l2 }) = (none : Option Rst) := by
    intro R key
    rcases ldGo_wrong (S := stgC) (last := l2) cs R ⟨#[]⟩ with e | e <;> rw [e]
    rfl
  cases e1 : rfGo stgN l0 none ns ⟨clampM most, [], [], [], 0, 0, 0⟩ with
  | none =>
    rw [e1] at s1
    rcases s1 with e | ⟨R', key', e⟩ <;> rw [e]
    exact dead R' key'
  | some W1 =>
    rw [e1] at s1
    obtain ⟨R1, k1, g1, t1, a1, b1⟩ := s1
    rw [g1]
    dsimp only
    have s2 := ldGo_rfGo (last := l1) stgS_ok ss none R1 ⟨#[]⟩ a1 b1 rfl
    rw [t1] at s2
    have n1 := rfGo_told stgLN ns none _ W1 (fun y hy => by cases hy) e1
    have sv1 := rfGo_keeps (p := (·.services)) (fun W x i => (rfNodeW_keep W x.node x.addr i).1) ns none _ W1 e1
    have cv1 := rfGo_keeps (p := (·.checks)) (fun W x i => (rfNodeW_keep W x.node x.addr i).2.1) ns none _ W1 e1
    have la1 := rfGo_last (p := (·.l0)) (fun W x i => (rfNodeW_keep W x.node x.addr i).2.2.2.2) ns none _ W1 h0 e1
    have lb1 := rfGo_keeps (p := (·.l1)) (fun W x i => (rfNodeW_keep W x.node x.addr i).2.2.1) ns none _ W1 e1
    have lc1 := rfGo_keeps (p := (·.l2)) (fun W x i => (rfNodeW_keep W x.node x.addr i).2.2.2.1) ns none _ W1 e1
    cases e2 : rfGo stgS l1 none ss W1 with
    | none =>
      rw [e2] at s2
      rcases s2 with e | ⟨R', key', e⟩ <;> rw [e]
      exact dead2 R' key'
    | some W2 =>
      rw [e2] at s2
      obtain ⟨R2, k2, g2, t2, a2, b2⟩ := s2
      rw [g2]
      dsimp only
      have s3 := ldGo_rfGo (last := l2) stgC_ok cs none R2 ⟨#[]⟩ a2 b2 rfl
      rw [t2] at s3
      have n2 := rfGo_keeps (p := (·.nodes)) (fun W x i => (rfSvcW_keep W x i).1) ss none _ W2 e2
      have sv2 := rfGo_told stgLS ss none _ W2 (fun y hy => by rw [sv1] at hy; cases hy) e2
      have cv2 := rfGo_keeps (p := (·.checks)) (fun W x i => (rfSvcW_keep W x i).2.1) ss none _ W2 e2
      have la2 := rfGo_keeps (p := (·.l0)) (fun W x i => (rfSvcW_keep W x i).2.2.1) ss none _ W2 e2
      have lb2 := rfGo_last (p := (·.l1)) (fun W x i => (rfSvcW_keep W x i).2.2.2.2) ss none _ W2 (by rw [lb1]; exact h1) e2
      have lc2 := rfGo_keeps (p := (·.l2)) (fun W x i => (rfSvcW_keep W x i).2.2.2.1) ss none _ W2 e2
      cases e3 : rfGo stgC l2 none cs W2 with
      | none =>
        rw [e3] at s3
        rcases s3 with e | ⟨R', key', e⟩ <;> rw [e]
        rfl
      | some W3 =>
        rw [e3] at s3
        obtain ⟨R3, k3, g3, t3, a3, b3⟩ := s3
        rw [g3]
        dsimp only
        have n3 := rfGo_keeps (p := (·.nodes)) (fun W x i => (rfChkW_keep W x i).1) cs none _ W3 e3
        have sv3 := rfGo_keeps (p := (·.services)) (fun W x i => (rfChkW_keep W x i).2.1) cs none _ W3 e3
        have cv3 := rfGo_told stgLC cs none _ W3 (fun y hy => by rw [cv2, cv1] at hy; cases hy) e3
        have la3 := rfGo_keeps (p := (·.l0)) (fun W x i => (rfChkW_keep W x i).2.2.1) cs none _ W3 e3
        have lb3 := rfGo_keeps (p := (·.l1)) (fun W x i => (rfChkW_keep W x i).2.2.2.1) cs none _ W3 e3
        have lc3 := rfGo_last (p := (·.l2)) (fun W x i => (rfChkW_keep W x i).2.2.2.2) cs none _ W3 (by rw [lc2, lc1]; exact h2) e3
        rw [if_neg (by decide)]
        refine ⟨_, rfl, ?_, ⟨a3.kn, a3.ks, a3.kc⟩, ⟨b3.m1, b3.m2, b3.sn, b3.ss, b3.sc, b3.ln, b3.ls, b3.lc⟩, ?_, ?_, ?_⟩
        · have q0 : R3.l0 ≤ l0 := by
            have x0 : R3.l0 = W3.l0 := by rw [← t3]; rfl
            have x1 : W3.l0 = W2.l0 := la3
            have x2 : W2.l0 = W1.l0 := la2
            have x3 : W1.l0 ≤ l0 := la1
            omega
          have q1 : R3.l1 ≤ l1 := by
            have x0 : R3.l1 = W3.l1 := by rw [← t3]; rfl
            have x1 : W3.l1 = W2.l1 := lb3
            have x2 : W2.l1 ≤ l1 := lb2
            omega
          have q2 : R3.l2 ≤ l2 := by
            have x0 : R3.l2 = W3.l2 := by rw [← t3]; rfl
            have x1 : W3.l2 ≤ l2 := lc3
            omega
          rw [← t3]
          simp only [tellR]
          rw [Int.max_eq_right q0, Int.max_eq_right q1, Int.max_eq_right q2]
        · dsimp only at n1 n2 n3 ⊢; rw [n3, n2, n1]; rfl
        · dsimp only at sv1 sv2 sv3 ⊢; rw [sv3, sv2, sv1]; rfl
        · dsimp only at cv1 cv2 cv3 ⊢; rw [cv3, cv2, cv1]; rfl
end Go.Sod
