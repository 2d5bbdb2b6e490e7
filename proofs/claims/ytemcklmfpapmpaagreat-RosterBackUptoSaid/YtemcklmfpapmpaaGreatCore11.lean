/-
  'a && b', 'a || b': a group of guarded operations that ends in a pick. Conditions: none.
-/
import Derived.Test.YtemcklmfpapmpaaGreatCore10
namespace Go.Sod
set_option linter.unusedVariables false
set_option linter.unusedSimpArgs false

/-- slots that are not written -/
def Agrees (D : List Nat) (a b : Act) : Prop := a.tmps.size = b.tmps.size ∧ ∀ t, t ∉ D → b.tmps.getD t undef = a.tmps.getD t undef
theorem Agrees.refl (D : List Nat) (a : Act) : Agrees D a a := ⟨rfl, fun _ _ => rfl⟩
theorem Agrees.put {D : List Nat} {a b : Act} (h : Agrees D a b) {dst : Option Nat} (hd : ∀ d, dst = some d → d ∈ D) (ds : List Deferred) (v : Value) : Agrees D a (({ b with defers := ds } : Act).put dst v) := by
  cases dst with
  | none => exact h
  | some d =>
    refine ⟨by simp [Act.put, h.1], fun t ht => ?_⟩
    have hne : d ≠ t := fun e => ht (e ▸ hd d rfl)
    have := h.2 t ht
    simpa [Act.put, Array.getElem?_setIfInBounds_ne hne] using this

def dstsOf : List (Oper × Kd) → List Nat
  | [] => []
  | (o, _) :: r => match o.dst with | some d => d :: dstsOf r | none => dstsOf r

theorem up_keeps {r : Option Nat} {P : Program} {o : Oper} {a : Act} {K : Act → World → Prop} {Q : Exit → Act → World → Prop} {w : World}
    (h : up r P o a K Q w) : up r P o a (fun a' w' => (∃ ds v, a' = ({ a with defers := ds } : Act).put o.dst v) ∧ K a' w') Q w := by
  unfold up at *
  cases hz : (o.semAt r a.eval).run P w with
  | ok x w' =>
    rw [hz] at h
    cases x with
    | value v => exact ⟨⟨a.defers, _, rfl⟩, h⟩
    | skip => exact ⟨⟨a.defers, _, rfl⟩, h⟩
    | defer d => exact ⟨⟨d :: a.defers, _, rfl⟩, h⟩
    | enter f args => exact ⟨h.1, CallsIn.mono h.2 (fun e w'' he => by cases e <;> first | exact ⟨⟨a.defers, _, rfl⟩, he⟩ | exact he)⟩
    | row f args => exact ⟨h.1, RowsIn.mono h.2 (fun _ _ he => ⟨⟨a.defers, _, rfl⟩, he⟩)⟩
    | round l f t x y => exact ⟨h.1, RoundIn.mono h.2 (fun e w'' he => by cases e <;> first | exact ⟨⟨a.defers, _, rfl⟩, he⟩ | exact he)⟩
    | _ => exact h
  | halt x w' =>
    rw [hz] at h
    cases x <;> exact h

theorem stepK_keeps {r : Option Nat} {P : Program} {ops : Array Oper} {Q : Exit → Act → World → Prop} {o : Oper} {k : Kd} {K : Act → World → Prop} {a : Act} {w : World}
    (h : stepK r P ops Q o k K a w) : stepK r P ops Q o k (fun a' w' => (∃ ds v, a' = ({ a with defers := ds } : Act).put o.dst v) ∧ K a' w') a w := by
  unfold stepK at *
  split
  · rename_i hw
    simp only [hw, if_true] at h
    cases k <;> dsimp only at h ⊢
    · obtain ⟨v, h1, h2⟩ := h; exact ⟨v, h1, ⟨a.defers, v, rfl⟩, h2⟩
    · obtain ⟨v, h1, h2⟩ := h; exact ⟨v, h1, ⟨a.defers, v, rfl⟩, h2⟩
    · exact up_mono (fun a' w' hk => ⟨hk.2.1, hk.1, hk.2.2⟩) (fun _ _ _ h => h) (up_keeps h)
    · exact up_keeps h
    · exact up_keeps h
  · rename_i hw
    rw [if_neg hw] at h
    exact ⟨⟨a.defers, undef, rfl⟩, h⟩

theorem WC_keeps {r : Option Nat} {P : Program} {ops : Array Oper} {K : Act → World → Prop} {Q : Exit → Act → World → Prop} : ∀ (l : List (Oper × Kd)) (D : List Nat) (a0 a : Act) (w : World), (∀ d, d ∈ dstsOf l → d ∈ D) → Agrees D a0 a →
    WC r P ops (Exit.then K Q) l a w → WC r P ops (Exit.then (fun a' w' => Agrees D a0 a' ∧ K a' w') Q) l a w := by
  intro l
  induction l with
  | nil => intro D a0 a w _ hag h; exact ⟨hag, h⟩
  | cons p l ih =>
    obtain ⟨o, k⟩ := p
    intro D a0 a w hD hag h
    have h1 := stepK_keeps (show stepK r P ops (Exit.then K Q) o k (WC r P ops (Exit.then K Q) l) a w from h)
    have hdo : ∀ d, o.dst = some d → d ∈ D := fun d e => hD d (by simp [dstsOf, e])
    have hDl : ∀ d, d ∈ dstsOf l → d ∈ D := fun d hd => hD d (by unfold dstsOf; split <;> simp [hd])
    have h2 := stepK_mono (K' := WC r P ops (Exit.then (fun a' w' => Agrees D a0 a' ∧ K a' w') Q) l) (fun a' w' hk => by
      obtain ⟨⟨ds, v, rfl⟩, hk⟩ := hk
      exact ih D a0 _ w' hDl (hag.put hdo ds v) hk) h1
    show stepK r P ops (Exit.then (fun a' w' => Agrees D a0 a' ∧ K a' w') Q) o k (WC r P ops (Exit.then (fun a' w' => Agrees D a0 a' ∧ K a' w') Q) l) a w
    -- the ways out that are no end are the same
    unfold stepK at h2 ⊢
    split
    · rename_i hw
      simp only [hw, if_true] at h2
      cases k <;> dsimp only at h2 ⊢ <;> first
        | exact h2
        | exact upQ h2
    · rename_i hw
      rw [if_neg hw] at h2
      exact h2
where
  upQ {r : Option Nat} {P : Program} {o : Oper} {a : Act} {w : World} {K1 K2 N : Act → World → Prop} {Q : Exit → Act → World → Prop} (h : up r P o a N (Exit.then K1 Q) w) : up r P o a N (Exit.then K2 Q) w := by
    unfold up at *
    generalize (o.semAt r a.eval).run P w = z at *
    have hl : LetsOut (Exit.then K1 Q) → LetsOut (Exit.then K2 Q) := fun ⟨a, w, h⟩ => ⟨a, w, h⟩
    cases z with
    | ok x w' =>
      cases x <;> first
        | exact h
        | exact ⟨h.1, CallsIn.mono h.2 (fun e w'' he => by cases e <;> first | exact he | exact hl he)⟩
        | exact ⟨h.1, RoundIn.mono h.2 (fun e w'' he => by cases e <;> first | exact he | exact hl he)⟩
    | halt x w' => cases x <;> exact h

theorem WC_append {r : Option Nat} {P : Program} {ops : Array Oper} {Q : Exit → Act → World → Prop} : ∀ (l1 l2 : List (Oper × Kd)) (a : Act) (w : World),
    WC r P ops (Exit.then (WC r P ops Q l2) Q) l1 a w → WC r P ops Q (l1 ++ l2) a w := by
  intro l1
  induction l1 with
  | nil => intro l2 a w h; exact h
  | cons p l1 ih =>
    obtain ⟨o, k⟩ := p
    intro l2 a w h
    have h2 := stepK_mono (K' := WC r P ops Q (l1 ++ l2)) (fun a' w' hk => ih l2 a' w' hk) (show stepK r P ops _ o k (WC r P ops (Exit.then (WC r P ops Q l2) Q) l1) a w from h)
    show stepK r P ops Q o k (WC r P ops Q (l1 ++ l2)) a w
    unfold stepK at h2 ⊢
    split
    · rename_i hw
      simp only [hw, if_true] at h2
      cases k <;> dsimp only at h2 ⊢ <;> first
        | exact h2
        | exact upQ' h2
    · rename_i hw
      rw [if_neg hw] at h2
      exact h2
where
  upQ' {r : Option Nat} {P : Program} {o : Oper} {a : Act} {w : World} {K1 N : Act → World → Prop} {Q : Exit → Act → World → Prop} (h : up r P o a N (Exit.then K1 Q) w) : up r P o a N Q w := by
    unfold up at *
    generalize (o.semAt r a.eval).run P w = z at *
    have hl : LetsOut (Exit.then K1 Q) → LetsOut Q := fun ⟨a, w, h⟩ => ⟨a, w, h⟩
    cases z with
    | ok x w' =>
      cases x <;> first
        | exact h
        | exact ⟨h.1, CallsIn.mono h.2 (fun e w'' he => by cases e <;> first | exact he | exact hl he)⟩
        | exact ⟨h.1, RoundIn.mono h.2 (fun e w'' he => by cases e <;> first | exact he | exact hl he)⟩
    | halt x w' => cases x <;> exact h

def notIn (D : List Nat) : Env → Bool
  | [] => true
  | (k, _) :: r => !(D.any (Nat.beq k)) && notIn D r
theorem notIn_spec {D : List Nat} : ∀ {env : Env}, notIn D env = true → ∀ t v, gt env t = some v → t ∉ D := by
  intro env
  induction env with
  | nil => intro _ t v h; simp [gt] at h
  | cons p env ih =>
    obtain ⟨k, u⟩ := p
    intro h t v hg
    simp only [notIn, Bool.and_eq_true, Bool.not_eq_true'] at h
    unfold gt at hg
    cases hb : Nat.beq k t with
    | true =>
      have := Nat.eq_of_beq_eq_true hb
      subst this
      intro hm
      have : D.any (Nat.beq k) = true := List.any_eq_true.2 ⟨k, hm, Nat.beq_refl k⟩
      rw [this] at h; cases h.1
    | false =>
      simp only [hb, cond_false] at hg
      exact ih h.2 t v hg

/-- the slot holds this; memory is as it was -/
def MidV (C : Cx) (ds : List Deferred) (d : Nat) (v : Value) (h : Hp) (L : List Hp) : Act → World → Prop := fun a w => Sat C ds [(d, v)] h L a w

section
variable {C : Cx} {ds : List Deferred} {env : Env} {h : Hp} {L L' : List Hp} {Q : Exit → Act → World → Prop} {ops : Array Oper} {l : List (Oper × Kd)}
theorem J.midV {d : Nat} {v : Value} (e : gt env d = some v) : J C (MidV C ds d v h L) ds env h L := fun a w s =>
  ⟨s.1, s.2.1, s.2.2.1.sub (Sub.cons e (Sub.nil _)), s.2.2.2⟩
theorem J.midB {d : Nat} {B : Bool} (e : gt env d = some (.bool B)) : J C (MidV C ds d (.bool B) h L) ds env h L := J.midV e

/-- A group of operations that yields one value, all else being as it was. -/
theorem J.grp {d n : Nat} {v : Value} (l1 l2 : List (Oper × Kd)) (hl : l = l1 ++ l2) (hni : notIn (dstsOf l1) env = true)
    (hg : J C (WC C.r C.P ops (Exit.then (MidV C ds d v h L) Q) l1) ds env h L) (hy : J C (WC C.r C.P ops Q l2) ds ((d, v) :: env) h L) : J C (WC C.r C.P ops Q l) ds env h L := by
  intro a w s
  subst hl
  refine WC_append l1 l2 a w ?_
  have h1 := WC_keeps l1 (dstsOf l1) a a w (fun _ h => h) (Agrees.refl _ _) (hg a w s)
  have mono : ∀ (K K' : Act → World → Prop) (l : List (Oper × Kd)), (∀ a w, K a w → K' a w) → ∀ a w, WC C.r C.P ops (Exit.then K Q) l a w → WC C.r C.P ops (Exit.then K' Q) l a w := by
    intro K K' l hk
    induction l with
    | nil => intro a w h; exact hk a w h
    | cons p l ih =>
      obtain ⟨o, k⟩ := p
      intro a w h
      have h2 := stepK_mono (K' := WC C.r C.P ops (Exit.then K' Q) l) ih (show stepK _ _ ops _ o k (WC C.r C.P ops (Exit.then K Q) l) a w from h)
      show stepK C.r C.P ops (Exit.then K' Q) o k (WC C.r C.P ops (Exit.then K' Q) l) a w
      unfold stepK at h2 ⊢
      split
      · rename_i hw
        simp only [hw, if_true] at h2
        cases k <;> dsimp only at h2 ⊢ <;> first
          | exact h2
          | exact WC_keeps.upQ h2
      · rename_i hw
        rw [if_neg hw] at h2
        exact h2
  refine mono _ _ l1 ?_ a w h1
  rintro a' w' ⟨hag, hm⟩
  refine hy a' w' ⟨hm.1, hm.2.1, ?_, hm.2.2.2⟩
  intro t u hu
  unfold gt at hu
  cases hb : Nat.beq d t with
  | true => exact hm.2.2.1 t u (by simpa [gt, hb] using hu)
  | false =>
    simp only [hb, cond_false] at hu
    rw [hag.2 t (notIn_spec hni t u hu)]
    exact s.2.2.1 t u hu

/-- a && b -/
theorem J.and {d g : Nat} {b B : Bool} (l1 l2 : List (Oper × Kd)) (hl : l = l1 ++ l2) (hni : notIn (dstsOf l1) env = true) (eg : gt env g = some (.bool b))
    (hT : b = true → J C (WC C.r C.P ops (Exit.then (MidV C ds d (.bool B) h L) Q) l1) ds ((g, .bool true) :: env) h L)
    (hF : J C (WC C.r C.P ops (Exit.then (MidV C ds d (.bool false) h L) Q) l1) ds ((g, .bool false) :: env) h L)
    (hy : J C (WC C.r C.P ops Q l2) ds ((d, .bool (b && B)) :: env) h L) : J C (WC C.r C.P ops Q l) ds env h L := by
  refine J.grp (n := 0) l1 l2 hl hni ?_ hy
  refine J.split eg (fun hb => ?_) (fun hb => ?_)
  · subst hb; exact hT rfl
  · subst hb; exact hF
/-- a || b -/
theorem J.or {d g : Nat} {b B : Bool} (l1 l2 : List (Oper × Kd)) (hl : l = l1 ++ l2) (hni : notIn (dstsOf l1) env = true) (eg : gt env g = some (.bool b))
    (hF : b = false → J C (WC C.r C.P ops (Exit.then (MidV C ds d (.bool B) h L) Q) l1) ds ((g, .bool false) :: env) h L)
    (hT : J C (WC C.r C.P ops (Exit.then (MidV C ds d (.bool true) h L) Q) l1) ds ((g, .bool true) :: env) h L)
    (hy : J C (WC C.r C.P ops Q l2) ds ((d, .bool (b || B)) :: env) h L) : J C (WC C.r C.P ops Q l) ds env h L := by
  refine J.grp (n := 0) l1 l2 hl hni ?_ hy
  refine J.split eg (fun hb => ?_) (fun hb => ?_)
  · subst hb; exact hT
  · subst hb; exact hF rfl
/-- the list's first n, and the rest -/
theorem take_drop (n : Nat) : l = l.take n ++ l.drop n := (List.take_append_drop n l).symm
end
end Go.Sod
