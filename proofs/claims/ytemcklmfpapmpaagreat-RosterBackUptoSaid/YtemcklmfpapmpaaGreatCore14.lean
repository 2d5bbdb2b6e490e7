/-
  A region that draws its order, with more than one order of what makes memory or writes: a tree of orders, walked. Conditions: none.
-/
import Derived.Test.YtemcklmfpapmpaaGreatCore13
namespace Go.Sod
set_option linter.unusedVariables false

inductive Tr where
  | nil
  | seq (c : List (Nat × Kd)) (t : Tr)
  | both (a b : Tr)

def WT (r : Option Nat) (P : Program) (ops : Array Oper) (Q : Exit → Act → World → Prop) : Tr → Act → World → Prop
  | .nil => fun a w => Q .normal a w
  | .seq c t => WC r P ops (Exit.then (WT r P ops Q t) Q) (opsAt ops c)
  | .both x y => fun a w => WT r P ops Q x a w ∧ WT r P ops Q y a w

/-- the same, one operation after the other -/
inductive Tw where
  | nil
  | op (i : Nat) (k : Kd) (t : Tw)
  | both (a b : Tw)
def W2 (r : Option Nat) (P : Program) (ops : Array Oper) (Q : Exit → Act → World → Prop) : Tw → Act → World → Prop
  | .nil => fun a w => Q .normal a w
  | .op i k t => stepK r P ops Q (ops[i]?.getD default) k (W2 r P ops Q t)
  | .both x y => fun a w => W2 r P ops Q x a w ∧ W2 r P ops Q y a w
def addTw (t : Tw) : List (Nat × Kd) → Tw
  | [] => t
  | x :: c => .op x.1 x.2 (addTw t c)
def Tr.tw : Tr → Tw
  | .nil => .nil
  | .seq c t => addTw t.tw c
  | .both a b => .both a.tw b.tw
def notSeq : Kd → Bool | .seq => false | _ => true
def Tr.plain : Tr → Bool
  | .nil => true
  | .seq c t => c.all (fun x => notSeq x.2) && t.plain
  | .both a b => a.plain && b.plain

theorem stepK_Q {r : Option Nat} {P : Program} {ops : Array Oper} {Q Q' : Exit → Act → World → Prop} {o : Oper} {k : Kd} {K : Act → World → Prop} {a : Act} {w : World} (hk : notSeq k = true) (h : stepK r P ops Q o k K a w) : stepK r P ops Q' o k K a w := by
  cases k with
  | seq => simp [notSeq] at hk
  | _ => exact h

theorem WT_tw {r : Option Nat} {P : Program} {ops : Array Oper} {Q : Exit → Act → World → Prop} : ∀ (t : Tr), t.plain = true → ∀ a w, WT r P ops Q t a w → W2 r P ops Q t.tw a w
  | .nil, _, a, w, h => h
  | .both x y, hp, a, w, h => by
    simp only [Tr.plain, Bool.and_eq_true] at hp
    exact ⟨WT_tw x hp.1 a w h.1, WT_tw y hp.2 a w h.2⟩
  | .seq c t, hp, a, w, h => by
    simp only [Tr.plain, Bool.and_eq_true] at hp
    have ih := WT_tw (r := r) (P := P) (ops := ops) (Q := Q) t hp.2
    have key : ∀ (c : List (Nat × Kd)), c.all (fun x => notSeq x.2) = true → ∀ a w, WC r P ops (Exit.then (WT r P ops Q t) Q) (opsAt ops c) a w → W2 r P ops Q (addTw t.tw c) a w := by
      intro c
      induction c with
      | nil => intro _ a w h; exact ih a w h
      | cons x c ihc =>
        intro hc a w h
        simp only [List.all_cons, Bool.and_eq_true] at hc
        exact stepK_Q hc.1 (stepK_mono (fun a w h => ihc hc.2 a w h) h)
    exact key c hp.1 a w h

/-- An operation is taken out ahead of those before it; ap: with whom one changes places. -/
def pull (ap : List Nat) (j : Nat) : Tw → Option (Kd × Tw)
  | .nil => none
  | .op i k t => bif Nat.beq i j then some (k, t) else match pull ap j t with
    | some (kj, t') => bif kindsOk k kj && (ap.getD i 0).testBit j then some (kj, .op i k t') else none
    | none => none
  | .both a b => match pull ap j a with
    | some x => some x
    | none => pull ap j b

/-- who changes places with whom is so -/
def okRow (ops : Array Oper) (i m : Nat) : Nat → Bool
  | 0 => true
  | j + 1 => (bif m.testBit j then (match ops[i]?, ops[j]? with | some a, some b => a.apart ops b && plainOp a && plainOp b | _, _ => false) else true) && okRow ops i m j
def okAp (ops : Array Oper) : Nat → List Nat → Bool
  | _, [] => true
  | i, m :: r => okRow ops i m ops.size && okAp ops (i + 1) r
/-- those that are waited for -/
def preOf (es : List Nat) : Nat := es.foldr (fun e m => (1 <<< e) ||| m) 0

theorem okRow_spec {ops : Array Oper} {i m : Nat} : ∀ {n j : Nat}, okRow ops i m n = true → j < n → m.testBit j = true → ∃ a b, ops[i]? = some a ∧ ops[j]? = some b ∧ a.apart ops b = true ∧ plainOp a = true ∧ plainOp b = true := by
  intro n
  induction n with
  | zero => intro j _ h; omega
  | succ n ih =>
    intro j h hj hb
    simp only [okRow, Bool.and_eq_true] at h
    by_cases e : j = n
    · subst e
      have h1 := h.1
      rw [hb, cond_true] at h1
      split at h1
      · rename_i a b ha hb'
        simp only [Bool.and_eq_true] at h1
        exact ⟨a, b, ha, hb', h1.1.1, h1.1.2, h1.2⟩
      · cases h1
    · exact ih h.2 (by omega) hb
theorem okAp_spec {ops : Array Oper} : ∀ {l : List Nat} {n i j : Nat}, okAp ops n l = true → j < ops.size → (l.getD i 0).testBit j = true → ∃ a b, ops[n + i]? = some a ∧ ops[j]? = some b ∧ a.apart ops b = true ∧ plainOp a = true ∧ plainOp b = true := by
  intro l
  induction l with
  | nil => intro n i j _ _ h; simp at h
  | cons m l ih =>
    intro n i j h hj hb
    simp only [okAp, Bool.and_eq_true] at h
    cases i with
    | zero => exact okRow_spec h.1 hj (by simpa using hb)
    | succ i =>
      have := ih (i := i) h.2 hj (by simpa using hb)
      rwa [show n + 1 + i = n + (i + 1) by omega] at this

theorem pull_sound {r : Option Nat} {P : Program} {ops : Array Oper} {Q : Exit → Act → World → Prop} {ap : List Nat} (hap : okAp ops 0 ap = true) {j : Nat} {oj : Oper} (hj : ops[j]? = some oj) :
    ∀ (t : Tw) (kj : Kd) (t' : Tw), pull ap j t = some (kj, t') → ∀ a w, W2 r P ops Q t a w → stepK r P ops Q oj kj (W2 r P ops Q t') a w := by
  intro t
  induction t with
  | nil => intro kj t' h; simp [pull] at h
  | both x y ihx ihy =>
    intro kj t' h a w hw
    simp only [pull] at h
    cases hx : pull ap j x with
    | some p => rw [hx] at h; simp only [Option.some.injEq] at h; subst h; exact ihx _ _ hx a w hw.1
    | none => rw [hx] at h; exact ihy _ _ h a w hw.2
  | op i k t ih =>
    intro kj t' h a w hw
    simp only [pull] at h
    cases hb : Nat.beq i j with
    | true =>
      have e := Nat.eq_of_beq_eq_true hb
      subst e
      rw [hb] at h
      simp only [cond_true, Option.some.injEq, Prod.mk.injEq] at h
      obtain ⟨rfl, rfl⟩ := h
      simpa [W2, hj] using hw
    | false =>
      rw [hb, cond_false] at h
      cases hp : pull ap j t with
      | none => rw [hp] at h; cases h
      | some p =>
        obtain ⟨k1, t1⟩ := p
        rw [hp] at h
        dsimp only at h
        cases hc : (kindsOk k k1 && (ap.getD i 0).testBit j) with
        | false => rw [hc] at h; cases h
        | true =>
          rw [hc, cond_true] at h
          simp only [Option.some.injEq, Prod.mk.injEq] at h
          obtain ⟨rfl, rfl⟩ := h
          simp only [Bool.and_eq_true] at hc
          obtain ⟨ai, bj, e1, e2, e3, e4, e5⟩ := okAp_spec hap (Array.getElem?_eq_some_iff.1 hj).1 hc.2
          rw [Nat.zero_add] at e1
          rw [hj] at e2
          cases e2
          have h1 : stepK r P ops Q ai k (W2 r P ops Q t) a w := by simpa [W2, e1] using hw
          have h2 := stepK_swap e3 hc.1 e4 e5 (stepK_mono (fun a w hh => ih _ _ hp a w hh) h1)
          refine stepK_mono (fun a w hh => ?_) h2
          simpa [W2, e1] using hh

/-- what is ready, of those below n -/
def rdy (pre : List Nat) (done : Nat) : Nat → List Nat
  | 0 => []
  | j + 1 => bif !(done.testBit j) && Nat.beq (Nat.land (pre.getD j 0) done) (pre.getD j 0) then j :: rdy pre done j else rdy pre done j
def Tw.isNil : Tw → Bool | .nil => true | _ => false
def good (ap pre : List Nat) (n : Nat) : Nat → Nat → Tw → Bool
  | 0, done, t => (rdy pre done n).isEmpty && t.isNil
  | f + 1, done, t => ((rdy pre done n).isEmpty && t.isNil) || (!(rdy pre done n).isEmpty && (rdy pre done n).all fun j => match pull ap j t with
    | some x => good ap pre n f (Nat.lor done (1 <<< j)) x.2
    | none => false)
def eqN : List Nat → List Nat → Bool
  | [], [] => true
  | a :: l, b :: m => Nat.beq a b && eqN l m
  | _, _ => false
theorem eqN_eq : ∀ {l m : List Nat}, eqN l m = true → l = m
  | [], [], _ => rfl
  | a :: l, b :: m, h => by
    simp only [eqN, Bool.and_eq_true] at h
    rw [Nat.eq_of_beq_eq_true h.1, eqN_eq h.2]
  | [], _ :: _, h => by cases h
  | _ :: _, [], h => by cases h
def okTree (ops : Array Oper) (ap pre : List Nat) (t : Tr) : Bool := t.plain && okAp ops 0 ap && eqN pre (ops.toList.map fun o => preOf (edgesOf o)) && good ap pre ops.size ops.size 0 t.tw

theorem preOf_bit {es : List Nat} {i : Nat} : (preOf es).testBit i = true ↔ i ∈ es := by
  induction es with
  | nil => simp [preOf]
  | cons e es ih =>
    have : preOf (e :: es) = (1 <<< e) ||| preOf es := rfl
    rw [this, Nat.testBit_or, Bool.or_eq_true, ih, Nat.one_shiftLeft, Nat.testBit_two_pow, List.mem_cons]
    simp only [decide_eq_true_eq]
    exact ⟨fun h => h.imp Eq.symm id, fun h => h.imp Eq.symm id⟩
theorem land_eq {m d : Nat} : Nat.beq (Nat.land m d) m = true ↔ ∀ k, m.testBit k = true → d.testBit k = true := by
  constructor
  · intro h k hk
    have e : m &&& d = m := Nat.eq_of_beq_eq_true h
    have := Nat.testBit_and m d k
    rw [e, hk] at this
    simpa using this
  · intro h
    have e : m &&& d = m := by
      apply Nat.eq_of_testBit_eq
      intro k
      rw [Nat.testBit_and]
      cases hk : m.testBit k with
      | false => rfl
      | true => rw [h k hk]; rfl
    show Nat.beq (m &&& d) m = true
    rw [e]; exact Nat.beq_refl m
theorem mem_rdy {pre : List Nat} {done : Nat} : ∀ {n j : Nat}, j ∈ rdy pre done n ↔ j < n ∧ done.testBit j = false ∧ Nat.beq (Nat.land (pre.getD j 0) done) (pre.getD j 0) = true := by
  intro n
  induction n with
  | zero => intro j; simp [rdy]
  | succ n ih =>
    intro j
    simp only [rdy]
    cases hb : (!(done.testBit n) && Nat.beq (Nat.land (pre.getD n 0) done) (pre.getD n 0)) with
    | true =>
      simp only [Bool.and_eq_true, Bool.not_eq_true'] at hb
      rw [cond_true, List.mem_cons, ih]
      constructor
      · rintro (rfl | h)
        · exact ⟨by omega, hb⟩
        · exact ⟨by omega, h.2⟩
      · intro h
        by_cases e : j = n
        · exact .inl e
        · exact .inr ⟨by omega, h.2⟩
    | false =>
      rw [cond_false, ih]
      constructor
      · intro h; exact ⟨by omega, h.2⟩
      · intro h
        by_cases e : j = n
        · subst e
          rw [h.2.1, h.2.2] at hb
          cases hb
        · exact ⟨by omega, h.2⟩

theorem W2_any {r : Option Nat} {P : Program} {ops : Array Oper} {Q : Exit → Act → World → Prop} {ap : List Nat} (hap : okAp ops 0 ap = true) :
    ∀ (fuel : Nat) (done : Nat) (t : Tw) (listed : Array Bool) (a : Act) (w : World), listed.size = ops.size → (∀ i, i < ops.size → listed.getD i false = done.testBit i) →
      (∀ (i : Nat) (o : Oper), ops[i]? = some o → ∀ k, k ∈ edgesOf o → k < ops.size) →
      good ap (ops.toList.map fun o => preOf (edgesOf o)) ops.size fuel done t = true → W2 r P ops Q t a w → wpAnyIn (Fw r) 0 P .any ops Q fuel listed a w := by
  intro fuel
  have hrd : ∀ (done : Nat) (listed : Array Bool), listed.size = ops.size → (∀ i, i < ops.size → listed.getD i false = done.testBit i) → (∀ (i : Nat) (o : Oper), ops[i]? = some o → ∀ k, k ∈ edgesOf o → k < ops.size) → ∀ j, j ∈ Region.ready .any ops listed ↔ j ∈ rdy (ops.toList.map fun o => preOf (edgesOf o)) done ops.size := by
    intro done listed hsz hl hed j
    rw [mem_rdy, mem_ready]
    constructor
    · rintro ⟨h1, o, ho, hall⟩
      have hj : j < ops.size := (Array.getElem?_eq_some_iff.1 ho).1
      have h1' : listed.getD j false = false := by simpa [Array.getD, hsz, hj] using h1
      refine ⟨hj, by rw [← hl j hj]; exact h1', land_eq.2 fun k hk => ?_⟩
      have hp : (ops.toList.map fun o => preOf (edgesOf o)).getD j 0 = preOf (edgesOf o) := by
        have : ops.toList[j]? = some o := by simpa using ho
        simp [List.getD_eq_getElem?_getD, this]
      rw [hp, preOf_bit] at hk
      have hkl : k < ops.size := hed j o ho k hk
      rw [← hl k hkl]
      obtain ⟨e, he, rfl⟩ := List.mem_map.1 hk
      obtain ⟨he1, he2⟩ := List.mem_filter.1 he
      exact hall e (by simpa using he1) he2
    · rintro ⟨hj, h1, h2⟩
      have ho : ops[j]? = some ops[j] := Array.getElem?_eq_getElem hj
      refine ⟨by rw [← hl j hj] at h1; simpa [Array.getD, hsz, hj] using h1, ops[j], ho, fun e he hb => ?_⟩
      have hk : e.on ∈ edgesOf ops[j] := List.mem_map.2 ⟨e, List.mem_filter.2 ⟨by simpa using he, hb⟩, rfl⟩
      have hp : (ops.toList.map fun o => preOf (edgesOf o)).getD j 0 = preOf (edgesOf ops[j]) := by
        have : ops.toList[j]? = some ops[j] := by simp
        simp only [List.getD_eq_getElem?_getD, List.getElem?_map, this]; rfl
      rw [hp] at h2
      have := land_eq.1 h2 e.on (preOf_bit.2 hk)
      rw [hl _ (hed j _ ho _ hk)]
      exact this
  induction fuel with
  | zero =>
    intro done t listed a w hsz hl hed hg h
    simp only [good, Bool.and_eq_true, List.isEmpty_iff] at hg
    refine ⟨?_, ?_⟩
    · rw [List.eq_nil_iff_forall_not_mem]
      intro j hj
      rw [hrd done listed hsz hl hed, hg.1] at hj
      cases hj
    · cases t with
      | nil => exact h
      | op => cases hg.2
      | both => cases hg.2
  | succ fuel ih =>
    intro done t listed a w hsz hl hed hg h
    simp only [good, Bool.or_eq_true, Bool.and_eq_true, List.isEmpty_iff, List.all_eq_true, Bool.not_eq_true'] at hg
    refine ⟨fun hr => ?_, fun j hj => ?_⟩
    · have hn : rdy (ops.toList.map fun o => preOf (edgesOf o)) done ops.size = [] := by
        rw [List.eq_nil_iff_forall_not_mem]
        intro j hj
        rw [← hrd done listed hsz hl hed, hr] at hj
        cases hj
      rcases hg with hg | hg
      · cases t with
        | nil => exact h
        | op => cases hg.2
        | both => cases hg.2
      · rw [hn] at hg; simp at hg
    · have hjr := (hrd done listed hsz hl hed j).1 hj
      obtain ⟨hj1, oj, hoj, hjall⟩ := mem_ready.1 hj
      have hjlt : j < ops.size := (Array.getElem?_eq_some_iff.1 hoj).1
      rcases hg with hg | hg
      · rw [hg.1] at hjr; cases hjr
      · have := hg.2 j hjr
        cases hp : pull ap j t with
        | none => rw [hp] at this; cases this
        | some x =>
          obtain ⟨kj, t'⟩ := x
          rw [hp] at this
          have hs := pull_sound (r := r) (P := P) (Q := Q) hap hoj t kj t' hp a w h
          refine wpOpIn_mono ?_ (stepK_wpOp hoj hs)
          intro a' w' hw'
          refine ih _ t' _ a' w' (by simpa using hsz) (fun i hi => ?_) hed this hw'
          have hto : (Nat.lor done (1 <<< j)).testBit i = (done.testBit i || decide (j = i)) := by
            show (done ||| (1 <<< j)).testBit i = _
            rw [Nat.testBit_or, Nat.one_shiftLeft, Nat.testBit_two_pow]
          rw [hto]
          by_cases e : i = j
          · subst e; simp [Array.getD, hsz, hjlt]
          · rw [getD_set_ne false (Ne.symm e), hl i hi]
            have : decide (j = i) = false := by simpa using Ne.symm e
            rw [this, Bool.or_false]

/-- what is waited for is there -/
def edgesIn (ops : Array Oper) : Bool := ops.toList.all fun o => (edgesOf o).all fun k => Nat.blt k ops.size
theorem wp_tree {r : Option Nat} {P : Program} {id : Nat} {ops : Array Oper} {Q : Exit → Act → World → Prop} {a : Act} {w : World} (t : Tr) (ap pre : List Nat)
    (hm : P.follows .mixedOrders = true) (he : edgesIn ops = true) (hok : okTree ops ap pre t = true) (h : WT r P ops Q t a { w with drawn := w.drawn + 1 }) :
    (Code.region id ops true).wpIn (Fw r) 0 P Q a w := by
  simp only [okTree, Bool.and_eq_true] at hok
  obtain ⟨⟨⟨h1, h2⟩, h3⟩, h4⟩ := hok
  obtain rfl := eqN_eq h3
  refine wpIn_region_any hm (W2_any h2 ops.size 0 t.tw _ a _ (by simp) (fun i hi => by simp [Array.getD, hi]) (fun i o ho k hk => ?_) h4 (WT_tw t h1 _ _ h))
  simp only [edgesIn, List.all_eq_true] at he
  have hmem : o ∈ ops.toList := by
    rw [← Array.getElem?_toList] at ho
    exact List.mem_of_getElem? ho
  exact Nat.blt_eq ▸ (he o hmem k hk)

theorem J.tree {C : Cx} {ds : List Deferred} {env : Env} {h : Hp} {L : List Hp} {Q : Exit → Act → World → Prop} {id : Nat} {ops : Array Oper} (t : Tr) (ap pre : List Nat) (hm : C.P.follows .mixedOrders = true) (he : edgesIn ops = true) (hok : okTree ops ap pre t = true)
    (j : J C (WT C.r C.P ops Q t) ds env h L) : J C (wpc C (.region id ops true) Q) ds env h L :=
  fun a w q => wp_tree t ap pre hm he hok (j a _ ⟨q.1, q.2.1, q.2.2.1, q.2.2.2.drew⟩)
section
variable {C : Cx} {ds : List Deferred} {env : Env} {h : Hp} {L : List Hp} {Q : Exit → Act → World → Prop} {ops : Array Oper}
theorem J.tSeq {c : List (Nat × Kd)} {t : Tr} (j : J C (WC C.r C.P ops (Exit.then (WT C.r C.P ops Q t) Q) (opsAt ops c)) ds env h L) : J C (WT C.r C.P ops Q (.seq c t)) ds env h L := j
theorem J.tBoth {x y : Tr} (j1 : J C (WT C.r C.P ops Q x) ds env h L) (j2 : J C (WT C.r C.P ops Q y) ds env h L) : J C (WT C.r C.P ops Q (.both x y)) ds env h L := fun a w q => ⟨j1 a w q, j2 a w q⟩
theorem J.tNil (j : J C (Q .normal) ds env h L) : J C (WT C.r C.P ops Q .nil) ds env h L := j
end
end Go.Sod
