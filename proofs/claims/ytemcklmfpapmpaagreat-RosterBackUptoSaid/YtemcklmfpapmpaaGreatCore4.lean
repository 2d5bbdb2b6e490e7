/-
  The walk's rules for operations: computing, reading, new memory, stores, calls. Conditions: none.
-/
import Derived.Test.YtemcklmfpapmpaaGreatCore3
namespace Go.Sod
set_option linter.unusedVariables false
set_option linter.unusedSimpArgs false

/-! ### What is asked of types -/
def aggB : TypeDesc → Bool
  | .struct _ => true
  | .array _ _ => true
  | _ => false
class Scal (P : Program) (t : TypeId) : Prop where eq : (P.underlying t).map aggB = some false
class Aggr (P : Program) (t : TypeId) (n : outParam Nat) : Prop where
  agg : (P.underlying t).map aggB = some true
  size : (P.info? t).map (·.size) = some n
class SzOf (P : Program) (t : TypeId) (n : outParam Nat) : Prop where size : (P.info? t).map (·.size) = some n
class ByOf (P : Program) (t : TypeId) (n : outParam Nat) : Prop where bytes : (P.info? t).map (·.bytes) = some n
class IsSl (P : Program) (t : TypeId) (e : outParam TypeId) : Prop where eq : P.underlying t = some (.slice e)
class IsSt (P : Program) (t : TypeId) : Prop where eq : P.underlying t = some .string
class IsIn (P : Program) (t : TypeId) (k : outParam IntKind) : Prop where eq : P.underlying t = some (.int k)
class IsMp (P : Program) (t : TypeId) (k e : outParam TypeId) : Prop where eq : P.underlying t = some (.map k e)
class IsPt (P : Program) (t : TypeId) (e : outParam TypeId) : Prop where eq : P.underlying t = some (.pointer e)
class IsBo (P : Program) (t : TypeId) : Prop where eq : P.underlying t = some .bool
class Zer (P : Program) (t : TypeId) (v : outParam Value) : Prop where eq : (P.info? t).map (·.zero) = some (some v)
/-- field f of struct type t: where it lies, its type; it has cells -/
class Fld (P : Program) (t : TypeId) (f : Nat) (off : outParam Nat) (ft : outParam TypeId) : Prop where
  eq : ∃ fs fd, P.underlying t = some (.struct fs) ∧ fs[f]? = some fd ∧ fd.offset = off ∧ fd.type = ft
  size : ∃ n, (P.info? ft).map (·.size) = some (n + 1)

section
variable {P : Program} {t : TypeId} {w : World}
theorem run_isAgg (b : Bool) (h : (P.underlying t).map aggB = some b) : (isAgg t).run P w = .ok b w := by
  obtain ⟨d, h1, h2⟩ := Option.map_eq_some_iff.1 h
  subst h2
  cases d <;> simp [isAgg, underlying, h1, aggB]
theorem run_sizeOf {n : Nat} (h : (P.info? t).map (·.size) = some n) : (sizeOf t).run P w = .ok n w := by
  obtain ⟨d, h1, h2⟩ := Option.map_eq_some_iff.1 h
  subst h2
  simp [sizeOf, typeInfo, h1]
theorem run_zeroValue {v : Value} (h : (P.info? t).map (·.zero) = some (some v)) : (zeroValue t).run P w = .ok v w := by
  obtain ⟨d, h1, h2⟩ := Option.map_eq_some_iff.1 h
  simp [zeroValue, typeInfo, h1, h2]
theorem run_underlying' {d : TypeDesc} (h : P.underlying t = some d) : (underlying t).run P w = .ok d w := by
  simp [underlying, h]
theorem Addr.add_none (b o n : Nat) : (⟨b, o, none⟩ : Addr).add n = ⟨b, o + n, none⟩ := by unfold Addr.add; split <;> simp_all

theorem cell_of {b off : Nat} {cs : List Value} {T : TypeId} {fr : Nat × Nat} {v : Value} (h : w.heap[b]? = some (.cells ⟨cs⟩ T fr)) (hv : cs[off]? = some v) : w.cell? ⟨b, off, none⟩ = some v := by
  simp [World.cell?, h, hv]
theorem run_loadScal [Scal P t] {a : Addr} {v : Value} (h : w.cell? a = some v) : (loadVar t a).run P w = .ok v w := by
  unfold loadVar
  rw [Sem.run_bind, run_isAgg false Scal.eq]
  simp [h]
theorem run_loadCellsFrom {b : Nat} {cs : List Value} {T : TypeId} {fr : Nat × Nat} (h : w.heap[b]? = some (.cells ⟨cs⟩ T fr)) :
    ∀ (l : List Value) (off i : Nat) (acc : Array Value), (∀ j, j < l.length → cs[off + i + j]? = l[j]?) → (loadCellsFrom ⟨b, off, none⟩ i l.length acc).run P w = .ok (acc ++ l.toArray) w := by
  intro l
  induction l with
  | nil => intro off i acc _; simp [loadCellsFrom]
  | cons x l ih =>
    intro off i acc hj
    have h0 : w.cell? ((⟨b, off, none⟩ : Addr).add i) = some x := by
      rw [Addr.add_none]
      exact cell_of h (by have := hj 0 (by simp); simpa using this)
    simp only [List.length_cons, loadCellsFrom, Sem.run_bind, run_load, h0, Result.andThen_ok]
    rw [ih off (i + 1) (acc.push x) (fun j hjl => by
      have := hj (j + 1) (by simpa using hjl)
      rw [List.getElem?_cons_succ] at this
      rw [← this]; congr 1; omega)]
    simp
theorem run_loadAgg {n : Nat} [Aggr P t n] {b off : Nat} {cs l : List Value} {T : TypeId} {fr : Nat × Nat} (h : w.heap[b]? = some (.cells ⟨cs⟩ T fr)) (hl : l.length = n)
    (hj : ∀ j, j < l.length → cs[off + j]? = l[j]?) : (loadVar t ⟨b, off, none⟩).run P w = .ok (.agg ⟨l⟩) w := by
  unfold loadVar
  rw [Sem.run_bind, run_isAgg true Aggr.agg]
  simp only [Result.andThen_ok, if_true, Sem.run_bind, run_sizeOf (Aggr.size (P := P) (t := t) (n := n))]
  subst hl
  have := run_loadCellsFrom (P := P) h l off 0 #[] (by simpa using hj)
  unfold loadCells
  rw [this]
  simp
end

/-! ### Frames of the rules -/
class At (h : Hp) (L : List Hp) (b : Nat) (o : outParam Obj) : Prop where
  get : h b = some o ∨ ∃ k, k ∈ L ∧ k b = some o
instance At.head (h : Hp) (L : List Hp) (b : Nat) (o : Obj) : At h (one b o :: L) b o := ⟨.inr ⟨_, List.mem_cons_self .., one_same _ _⟩⟩
instance At.tail (h k : Hp) (L : List Hp) (b : Nat) (o : Obj) [q : At h L b o] : At h (k :: L) b o :=
  ⟨q.get.imp id fun ⟨x, hx, e⟩ => ⟨x, List.mem_cons_of_mem _ hx, e⟩⟩
theorem At.ofH {h : Hp} {L : List Hp} {b : Nat} {o : Obj} (e : h b = some o) : At h L b o := ⟨.inl e⟩
theorem At.ofL {h : Hp} {L : List Hp} {b : Nat} {o : Obj} {k : Hp} (hk : k ∈ L) (e : k b = some o) : At h L b o := ⟨.inr ⟨k, hk, e⟩⟩
theorem At.blk {h : Hp} {L : List Hp} {b : Nat} {o : Obj} (q : At h L b o) {w0 w : World} {M0 : Nat → Prop} {h0 : Hp} (s : St w0 M0 h0 w h L) : w.heap[b]? = some o := by
  rcases q.get with e | ⟨k, hk, e⟩
  · exact s.hin b o e
  · exact s.lin k hk b o e

def okRead : Kd → Bool | .pure => false | _ => true
def okGrow : Kd → Bool | .grow => true | .mut => true | .seq => true | _ => false
def okMut : Kd → Bool | .mut => true | .seq => true | _ => false

theorem stepK_pure {r : Option Nat} {P : Program} {ops : Array Oper} {Q : Exit → Act → World → Prop} {o : Oper} {k : Kd} {K : Act → World → Prop} {a : Act} {w : World} {v : Value}
    (hw : Region.wanted o (yielded ops a.tmps) = true) (hr : ∀ w', (o.semAt r a.eval).run P w' = .ok (.value v) w') (hK : K (a.put o.dst v) w) : stepK r P ops Q o k K a w := by
  unfold stepK
  rw [if_pos hw]
  cases k
  · exact ⟨v, hr, hK⟩
  · exact ⟨v, fun w' _ => hr w', hK⟩
  · unfold up; rw [hr]; exact ⟨GrowW.refl w, hK⟩
  · unfold up; rw [hr]; exact hK
  · unfold up; rw [hr]; exact hK
theorem stepK_read {r : Option Nat} {P : Program} {ops : Array Oper} {Q : Exit → Act → World → Prop} {o : Oper} {k : Kd} {K : Act → World → Prop} {a : Act} {w : World} {v : Value} (hk : okRead k = true)
    (hw : Region.wanted o (yielded ops a.tmps) = true) (hr : ∀ w', GrowW w w' → (o.semAt r a.eval).run P w' = .ok (.value v) w') (hK : K (a.put o.dst v) w) : stepK r P ops Q o k K a w := by
  unfold stepK
  rw [if_pos hw]
  cases k
  · cases hk
  · exact ⟨v, hr, hK⟩
  · unfold up; rw [hr w (GrowW.refl w)]; exact ⟨GrowW.refl w, hK⟩
  · unfold up; rw [hr w (GrowW.refl w)]; exact hK
  · unfold up; rw [hr w (GrowW.refl w)]; exact hK
theorem stepK_grow {r : Option Nat} {P : Program} {ops : Array Oper} {Q : Exit → Act → World → Prop} {o : Oper} {k : Kd} {K : Act → World → Prop} {a : Act} {w w' : World} {v : Value} (hk : okGrow k = true)
    (hw : Region.wanted o (yielded ops a.tmps) = true) (hr : (o.semAt r a.eval).run P w = .ok (.value v) w') (hg : GrowW w w') (hK : K (a.put o.dst v) w') : stepK r P ops Q o k K a w := by
  unfold stepK
  rw [if_pos hw]
  cases k
  · cases hk
  · cases hk
  · unfold up; rw [hr]; exact ⟨hg, hK⟩
  · unfold up; rw [hr]; exact hK
  · unfold up; rw [hr]; exact hK
theorem stepK_mut {r : Option Nat} {P : Program} {ops : Array Oper} {Q : Exit → Act → World → Prop} {o : Oper} {k : Kd} {K : Act → World → Prop} {a : Act} {w : World} (hk : okMut k = true)
    (hw : Region.wanted o (yielded ops a.tmps) = true) (h : up r P o a K botQ w) : stepK r P ops Q o k K a w := by
  unfold stepK
  rw [if_pos hw]
  cases k
  · cases hk
  · cases hk
  · cases hk
  · exact h
  · exact up_mono (fun _ _ h => h) (fun _ _ _ h => h.elim) h
theorem stepK_growU {r : Option Nat} {P : Program} {ops : Array Oper} {Q : Exit → Act → World → Prop} {o : Oper} {k : Kd} {K : Act → World → Prop} {a : Act} {w : World} (hk : okGrow k = true)
    (hw : Region.wanted o (yielded ops a.tmps) = true) (h : up r P o a (fun a' w' => GrowW w w' ∧ K a' w') botQ w) : stepK r P ops Q o k K a w := by
  unfold stepK
  rw [if_pos hw]
  cases k
  · cases hk
  · cases hk
  · exact h
  · exact up_mono (fun _ _ h => h.2) (fun _ _ _ h => h) h
  · exact up_mono (fun _ _ h => h.2) (fun _ _ _ h => h.elim) h
theorem stepK_no {r : Option Nat} {P : Program} {ops : Array Oper} {Q : Exit → Act → World → Prop} {o : Oper} {k : Kd} {K : Act → World → Prop} {a : Act} {w : World}
    (hw : Region.wanted o (yielded ops a.tmps) = false) (h : K (a.put o.dst undef) w) : stepK r P ops Q o k K a w := by
  unfold stepK
  rw [if_neg (by rw [hw]; simp)]
  exact h

section
variable {C : Cx} {ds : List Deferred} {env : Env} {h : Hp} {L : List Hp} {Q : Exit → Act → World → Prop} {ops : Array Oper} {rest : List (Oper × Kd)} {k : Kd}
variable {d : Nat} {op : Op} {ty : TypeId} {pos : String} {after : Array Edge} {v : Value}

theorem Sat.put {a : Act} {w : World} (s : Sat C ds env h L a w) {v : Value} (hlt : Nat.blt d C.nt = true) {w' : World} {h' : Hp} {L' : List Hp} (s' : St C.w0 C.M0 C.h0 w' h' L') : Sat C ds ((d, v) :: env) h' L' (a.put (some d) v) w' := by
  have hd : d < a.tmps.size := by
    rw [s.1]
    have : Nat.ble (d + 1) C.nt = true := hlt
    have := Nat.le_of_ble_eq_true this
    omega
  exact ⟨by simp [Act.put, s.1], s.2.1, s.2.2.1.put v hd, s'⟩

theorem J.pure0 (hlt : Nat.blt d C.nt = true) (hp : plainOp ⟨some d, op, ty, pos, after, none⟩ = true)
    (hrun : ∀ a : Act, Knows env a → ∀ w, (execOp a.eval ⟨some d, op, ty, pos, after, none⟩).run C.P w = .ok (.value v) w)
    (j : J C (WC C.r C.P ops Q rest) ds ((d, v) :: env) h L) : J C (WC C.r C.P ops Q ((⟨some d, op, ty, pos, after, none⟩, k) :: rest)) ds env h L := by
  intro a w s
  refine stepK_pure rfl (fun w' => ?_) (j _ _ (s.put (v := v) hlt s.2.2.2))
  rw [Oper.semAt_eq _ _ _ (plainOp_def hp)]; exact hrun a s.2.2.1 w'

theorem J.read0 (hk : okRead k = true) (hlt : Nat.blt d C.nt = true) (hp : plainOp ⟨some d, op, ty, pos, after, none⟩ = true)
    (hrun : ∀ a : Act, Knows env a → ∀ w, St C.w0 C.M0 C.h0 w h L → ∀ w', GrowW w w' → (execOp a.eval ⟨some d, op, ty, pos, after, none⟩).run C.P w' = .ok (.value v) w')
    (j : J C (WC C.r C.P ops Q rest) ds ((d, v) :: env) h L) : J C (WC C.r C.P ops Q ((⟨some d, op, ty, pos, after, none⟩, k) :: rest)) ds env h L := by
  intro a w s
  refine stepK_read hk rfl (fun w' hg => ?_) (j _ _ (s.put (v := v) hlt s.2.2.2))
  rw [Oper.semAt_eq _ _ _ (plainOp_def hp)]; exact hrun a s.2.2.1 w s.2.2.2 w' hg

/-- A reading whose value is known by what is said of it. -/
theorem J.readX {α : Type} {vf : α → Value} {Φ : α → Prop} (hk : okRead k = true) (hlt : Nat.blt d C.nt = true) (hp : plainOp ⟨some d, op, ty, pos, after, none⟩ = true) (hx : ∃ x, Φ x ∧
      ∀ a : Act, Knows env a → ∀ w, St C.w0 C.M0 C.h0 w h L → ∀ w', GrowW w w' → (execOp a.eval ⟨some d, op, ty, pos, after, none⟩).run C.P w' = .ok (.value (vf x)) w')
    (j : ∀ x, Φ x → J C (WC C.r C.P ops Q rest) ds ((d, vf x) :: env) h L) : J C (WC C.r C.P ops Q ((⟨some d, op, ty, pos, after, none⟩, k) :: rest)) ds env h L := by
  obtain ⟨x, h1, h2⟩ := hx
  exact J.read0 hk hlt hp h2 (j x h1)

theorem GrowW.alloc (w : World) (o : Obj) : GrowW w (w.alloc o) := ⟨by simp, fun b hb => by
  show (w.heap.push o)[b]? = _
  rw [Array.getElem?_push, if_neg (by omega)]⟩

theorem J.new0 {vf : Nat → Value} {o : Obj} (hk : okGrow k = true) (hlt : Nat.blt d C.nt = true) (hp : plainOp ⟨some d, op, ty, pos, after, none⟩ = true)
    (hrun : ∀ a : Act, Knows env a → ∀ w, (execOp a.eval ⟨some d, op, ty, pos, after, none⟩).run C.P w = .ok (.value (vf w.heap.size)) (w.alloc o))
    (j : ∀ b, J C (WC C.r C.P ops Q rest) ds ((d, vf b) :: env) h (one b o :: L)) : J C (WC C.r C.P ops Q ((⟨some d, op, ty, pos, after, none⟩, k) :: rest)) ds env h L := by
  intro a w s
  refine stepK_grow hk rfl ?_ (GrowW.alloc w o) (j _ _ _ (s.put (v := vf w.heap.size) hlt (s.2.2.2.alloc o)))
  rw [Oper.semAt_eq _ _ _ (plainOp_def hp)]; exact hrun a s.2.2.1 w

/-- An operation that writes what is one's own, and yields nothing. -/
theorem J.put0 {L' : List Hp} (hk : okMut k = true) (hp : plainOp ⟨none, op, ty, pos, after, none⟩ = true)
    (hrun : ∀ a : Act, Knows env a → ∀ w, St C.w0 C.M0 C.h0 w h L → ∃ w', (execOp a.eval ⟨none, op, ty, pos, after, none⟩).run C.P w = .ok .skip w' ∧ St C.w0 C.M0 C.h0 w' h L')
    (j : J C (WC C.r C.P ops Q rest) ds env h L') : J C (WC C.r C.P ops Q ((⟨none, op, ty, pos, after, none⟩, k) :: rest)) ds env h L := by
  intro a w s
  obtain ⟨w', hr, s'⟩ := hrun a s.2.2.1 w s.2.2.2
  refine stepK_mut hk rfl ?_
  unfold up
  rw [Oper.semAt_eq _ _ _ (plainOp_def hp), hr]
  exact j _ _ ⟨s.1, s.2.1, s.2.2.1, s'⟩

/-- Whatever operation of the library's: it yields a value, and leaves a state. -/
theorem J.op0 {α : Type} {vf : α → Value} {hf : α → Hp} {Lf : α → List Hp} {Φ : α → Prop} (hk : okMut k = true) (hlt : Nat.blt d C.nt = true) (hp : plainOp ⟨some d, op, ty, pos, after, none⟩ = true)
    (hrun : ∀ a : Act, Knows env a → ∀ w, St C.w0 C.M0 C.h0 w h L → ∃ x w', Φ x ∧ (execOp a.eval ⟨some d, op, ty, pos, after, none⟩).run C.P w = .ok (.value (vf x)) w' ∧ St C.w0 C.M0 C.h0 w' (hf x) (Lf x))
    (j : ∀ x, Φ x → J C (WC C.r C.P ops Q rest) ds ((d, vf x) :: env) (hf x) (Lf x)) : J C (WC C.r C.P ops Q ((⟨some d, op, ty, pos, after, none⟩, k) :: rest)) ds env h L := by
  intro a w s
  obtain ⟨x, w', hΦ, hr, s'⟩ := hrun a s.2.2.1 w s.2.2.2
  refine stepK_mut hk rfl ?_
  unfold up
  rw [Oper.semAt_eq _ _ _ (plainOp_def hp), hr]
  exact j x hΦ _ _ (s.put (v := vf x) hlt s')

/-! ### Guards -/
theorem yielded_of {C : Cx} {ds : List Deferred} {env : Env} {h : Hp} {L : List Hp} {ops : Array Oper} {a : Act} {w : World} {g : Nat} {og : Oper} {dg : Nat} {b : Bool} (s : Sat C ds env h L a w)
    (ho : ops[g]? = some og) (hd : og.dst = some dg) (hg : gt env dg = some (.bool b)) (hlt : Nat.blt dg C.nt = true) : yielded ops a.tmps g = some b := by
  have h1 := s.2.2.1 dg _ hg
  have hd' : dg < a.tmps.size := by
    rw [s.1]
    have : Nat.ble (dg + 1) C.nt = true := hlt
    have := Nat.le_of_ble_eq_true this
    omega
  have e : a.tmps[dg]? = some (.bool b) := by
    rw [Array.getElem?_eq_getElem hd']
    simp only [Array.getD, hd', dite_true] at h1
    exact congrArg some h1
  simp [yielded, ho, hd, e]
theorem J.guard {o : Op} {dst : Option Nat} {g : Nat} {want : Bool} {og : Oper} {dg : Nat} (ho : ops[g]? = some og) (hd : og.dst = some dg) (hg : gt env dg = some (.bool want)) (hlt : Nat.blt dg C.nt = true)
    (j : J C (WC C.r C.P ops Q ((⟨dst, o, ty, pos, after, none⟩, k) :: rest)) ds env h L) : J C (WC C.r C.P ops Q ((⟨dst, o, ty, pos, after, some (g, want)⟩, k) :: rest)) ds env h L := by
  intro a w s
  have h0 := j a w s
  have hb := yielded_of s ho hd hg hlt
  have hw : Region.wanted ⟨dst, o, ty, pos, after, some (g, want)⟩ (yielded ops a.tmps) = true := by simp [Region.wanted, hb]
  change stepK _ _ _ _ _ _ _ _ _ at h0
  show stepK _ _ _ _ _ _ _ _ _
  unfold stepK at h0 ⊢
  rw [if_pos hw]
  rw [if_pos (show Region.wanted ⟨dst, o, ty, pos, after, none⟩ (yielded ops a.tmps) = true from rfl)] at h0
  exact h0

theorem J.guardNo {o : Op} {g : Nat} {want b : Bool} {og : Oper} {dg : Nat} (ho : ops[g]? = some og) (hd : og.dst = some dg) (hg : gt env dg = some (.bool b)) (hne : (b == want) = false) (hlt : Nat.blt d C.nt = true) (hltg : Nat.blt dg C.nt = true)
    (j : J C (WC C.r C.P ops Q rest) ds ((d, undef) :: env) h L) : J C (WC C.r C.P ops Q ((⟨some d, o, ty, pos, after, some (g, want)⟩, k) :: rest)) ds env h L := by
  intro a w s
  have hb := yielded_of s ho hd hg hltg
  refine stepK_no ?_ (j _ _ (s.put (v := undef) hlt s.2.2.2))
  simp only [Region.wanted, hb]
  cases b <;> cases want <;> simp_all

/-- An operation passed over that yields nothing. -/
theorem J.guardNo' {o : Op} {g : Nat} {want b : Bool} {og : Oper} {dg : Nat} (ho : ops[g]? = some og) (hd : og.dst = some dg) (hg : gt env dg = some (.bool b)) (hne : (b == want) = false) (hltg : Nat.blt dg C.nt = true)
    (j : J C (WC C.r C.P ops Q rest) ds env h L) : J C (WC C.r C.P ops Q ((⟨none, o, ty, pos, after, some (g, want)⟩, k) :: rest)) ds env h L := by
  intro a w s
  have hb := yielded_of s ho hd hg hltg
  refine stepK_no ?_ (j _ _ s)
  simp only [Region.wanted, hb]
  cases b <;> cases want <;> simp_all

/-! ### Operations that compute -/
theorem J.mv {x : Operand} (e : evE env x = some v) (hlt : Nat.blt d C.nt = true) (j : J C (WC C.r C.P ops Q rest) ds ((d, v) :: env) h L) :
    J C (WC C.r C.P ops Q ((⟨some d, .move x, ty, pos, after, none⟩, k) :: rest)) ds env h L :=
  J.pure0 hlt rfl (fun a k w => by simp [execOp, k.eval e]) j
theorem J.as_ {x : Operand} (e : evE env x = some v) (hlt : Nat.blt d C.nt = true) (j : J C (WC C.r C.P ops Q rest) ds ((d, v) :: env) h L) :
    J C (WC C.r C.P ops Q ((⟨some d, .assign x, ty, pos, after, none⟩, k) :: rest)) ds env h L :=
  J.pure0 hlt rfl (fun a k w => by simp [execOp, k.eval e]) j
theorem J.pick {c x y : Operand} {b : Bool} {u v : Value} (ec : evE env c = some (.bool b)) (e : evE env x = some u) (e' : evE env y = some v) (hlt : Nat.blt d C.nt = true) (j : J C (WC C.r C.P ops Q rest) ds ((d, if b then u else v) :: env) h L) :
    J C (WC C.r C.P ops Q ((⟨some d, .pick c x y, ty, pos, after, none⟩, k) :: rest)) ds env h L :=
  J.pure0 hlt rfl (fun a k w => by cases b <;> simp [execOp, k.eval e, k.eval ec, k.eval e', asBool]) j

/-- what a comparison of two numbers says -/
def cmpI : BinOp → Int → Int → Option Bool
  | .lss, a, b => some (decide (a < b))
  | .leq, a, b => some (decide (a ≤ b))
  | .gtr, a, b => some (decide (b < a))
  | .geq, a, b => some (decide (b ≤ a))
  | .eql, a, b => some (decide (a = b))
  | .neq, a, b => some (!decide (a = b))
  | _, _, _ => none
theorem J.cmp {o : BinOp} {x y : Operand} {q : IntKind} {m n : Int} {t t' : TypeId} {b : Bool} (ex : evE env x = some (.int q m)) (ey : evE env y = some (.int q n)) (hb : cmpI o m n = some b) (hlt : Nat.blt d C.nt = true)
    (j : J C (WC C.r C.P ops Q rest) ds ((d, .bool b) :: env) h L) :
    J C (WC C.r C.P ops Q ((⟨some d, .binOp o t x y t', ty, pos, after, none⟩, k) :: rest)) ds env h L :=
  J.pure0 hlt rfl (fun a k w => by
    cases o <;> simp only [cmpI, Option.some.injEq, reduceCtorEq] at hb
    all_goals subst hb
    all_goals simp [execOp, k.eval ex, k.eval ey, binOp, Op.intCmp, eqGuard, bne, BEq.beq]) j

end
end Go.Sod
