/-
  The walk's rules for operations, continued: arithmetic, strings, structs, boxes, stores, calls. Conditions: none.
-/
import Derived.Test.YtemcklmfpapmpaaGreatCore4
import Derived.Laws.Strings
import Derived.Laws.Strings2
import Derived.Laws.Strings3
namespace Go.Sod
set_option linter.unusedVariables false
set_option linter.unusedSimpArgs false

/-- The i-th of a list is another one. -/
class SetL (l : List Value) (i : Nat) (v : Value) (l' : outParam (List Value)) : Prop where
  eq : l.set i v = l'
  lt : i < l.length
instance SetL.zero (a : Value) (l : List Value) (v : Value) : SetL (a :: l) 0 v (v :: l) := ⟨rfl, by simp⟩
instance SetL.succ (a : Value) (l : List Value) (i : Nat) (v : Value) (l' : List Value) [q : SetL l i v l'] : SetL (a :: l) (i + 1) v (a :: l') := ⟨by simp [q.eq], by have := q.lt; simp; omega⟩

/-- A block of one's own is another one. -/
class BoxSet (L : List Hp) (b : Nat) (o : outParam Obj) (o' : Obj) (L' : outParam (List Hp)) : Prop where
  ex : ∃ R, L.Perm (one b o :: R) ∧ L'.Perm (one b o' :: R)
instance BoxSet.head (L : List Hp) (b : Nat) (o o' : Obj) : BoxSet (one b o :: L) b o o' (one b o' :: L) := ⟨⟨L, List.Perm.refl _, List.Perm.refl _⟩⟩
instance BoxSet.tail (k : Hp) (L : List Hp) (b : Nat) (o o' : Obj) (L' : List Hp) [q : BoxSet L b o o' L'] : BoxSet (k :: L) b o o' (k :: L') := ⟨by
  obtain ⟨R, h1, h2⟩ := q.ex
  exact ⟨k :: R, (h1.cons k).trans (List.Perm.swap _ _ _), (h2.cons k).trans (List.Perm.swap _ _ _)⟩⟩

/-- A box of one's own, the whole of it another one. -/
class BoxWh (L : List Hp) (b : Nat) (cs : outParam (List Value)) (T : outParam TypeId) (l : List Value) (L' : outParam (List Hp)) : Prop where
  ex : BoxSet L b (.cells ⟨cs⟩ T (0, 0)) (.cells ⟨l⟩ T (0, 0)) L'
instance BoxWh.head (L : List Hp) (b : Nat) (cs : List Value) (T : TypeId) (l : List Value) : BoxWh (one b (.cells ⟨cs⟩ T (0, 0)) :: L) b cs T l (one b (.cells ⟨l⟩ T (0, 0)) :: L) := ⟨BoxSet.head ..⟩
instance BoxWh.tail (k : Hp) (L : List Hp) (b : Nat) (cs : List Value) (T : TypeId) (l : List Value) (L' : List Hp) [q : BoxWh L b cs T l L'] : BoxWh (k :: L) b cs T l (k :: L') := ⟨by
  haveI := q.ex
  exact BoxSet.tail ..⟩

theorem BoxSet.st {L L' : List Hp} {b : Nat} {o o' : Obj} (q : BoxSet L b o o' L') {w0 w : World} {M0 : Nat → Prop} {h0 h : Hp} (s : St w0 M0 h0 w h L) :
    w.heap[b]? = some o ∧ St w0 M0 h0 { w with heap := w.heap.setIfInBounds b o' } h L' := by
  obtain ⟨R, h1, h2⟩ := q.ex
  have s1 := s.perm h1
  exact ⟨s1.lin _ (List.mem_cons_self ..) b o (one_same _ _), s1.put.perm h2.symm⟩

section
variable {P : Program} {t : TypeId} {w : World}
theorem setCell_eq {b off : Nat} {cs : List Value} {T : TypeId} {fr : Nat × Nat} {v : Value} (h : w.heap[b]? = some (.cells ⟨cs⟩ T fr)) :
    w.setCell ⟨b, off, none⟩ v = { w with heap := w.heap.setIfInBounds b (.cells ⟨cs.set off v⟩ T fr) } := by
  obtain ⟨hlt, he⟩ := Array.getElem?_eq_some_iff.1 h
  unfold World.setCell
  congr 1
  apply Array.ext_getElem?
  intro i
  rw [Array.getElem?_modify, Array.getElem?_setIfInBounds]
  by_cases e : b = i
  · subst e
    simp [h, hlt, List.setIfInBounds_toArray, he]
  · simp [e]

/-- What may be stored as one cell. -/
def oneV : Value → Bool
  | .agg _ => false
  | .tuple _ => false
  | _ => true
theorem oneV_cells {v : Value} (h : oneV v = true) : v.cells = #[v] ∧ v.oneCell' = true := by cases v <;> simp_all [oneV, Value.cells, Value.oneCell']

theorem run_storeOne {b off : Nat} {cs : List Value} {T : TypeId} {v : Value} (h : w.heap[b]? = some (.cells ⟨cs⟩ T (0, 0))) (hlt : off < cs.length) (hv : oneV v = true) :
    (store ⟨b, off, none⟩ v).run P w = .ok () { w with heap := w.heap.setIfInBounds b (.cells ⟨cs.set off v⟩ T (0, 0)) } := by
  have hc : w.cell? ⟨b, off, none⟩ = some cs[off] := cell_of h (by simp [hlt])
  rw [run_store P w _ v .plain (oneV_cells hv).2, hc]
  have hf : w.frozen? ⟨b, off, none⟩ = false := by simp [World.frozen?, h]
  simp only [hf, Bool.false_eq_true, if_false]
  rw [setCell_eq h]

/-- Cells laid from an offset on. -/
def layL (cs : List Value) (off : Nat) : List Value → List Value
  | [] => cs
  | v :: r => layL (cs.set off v) (off + 1) r
theorem layL_length (l : List Value) : ∀ (cs : List Value) (off : Nat), (layL cs off l).length = cs.length := by
  induction l with
  | nil => intro cs off; rfl
  | cons v r ih => intro cs off; rw [layL, ih]; simp
theorem layL_get (l : List Value) : ∀ (cs : List Value) (off i : Nat), off + l.length ≤ cs.length → (layL cs off l)[i]? = if off ≤ i ∧ i < off + l.length then l[i - off]? else cs[i]? := by
  induction l with
  | nil => intro cs off i h; rw [layL, if_neg (by simp only [List.length_nil]; omega)]
  | cons v r ih =>
    intro cs off i h
    simp only [List.length_cons] at h
    rw [layL, ih _ _ _ (by simp; omega)]
    by_cases e : i = off
    · subst e
      rw [if_neg (by omega), if_pos (by simp), List.getElem?_set_self (by omega)]
      simp
    · by_cases h1 : off + 1 ≤ i ∧ i < off + 1 + r.length
      · rw [if_pos h1, if_pos (by simp only [List.length_cons]; omega)]
        have : i - off = (i - (off + 1)) + 1 := by omega
        rw [this, List.getElem?_cons_succ]
      · rw [if_neg h1, if_neg (by simp only [List.length_cons]; omega), List.getElem?_set_ne (by omega)]
theorem layL_whole {cs l : List Value} (h : l.length = cs.length) : layL cs 0 l = l := by
  apply List.ext_getElem?
  intro i
  rw [layL_get l cs 0 i (by omega)]
  split
  · simp
  · rename_i hh
    have : cs.length ≤ i := by
      apply Classical.byContradiction
      intro hn
      exact hh (by omega)
    rw [List.getElem?_eq_none this, List.getElem?_eq_none (by omega)]

theorem run_storeCells {b : Nat} {T : TypeId} : ∀ (l : List Value) (w : World) (cs : List Value) (off i : Nat), w.heap[b]? = some (.cells ⟨cs⟩ T (0, 0)) → off + i + l.length ≤ cs.length → (∀ v, v ∈ l → oneV v = true) →
    (storeCells ⟨b, off, none⟩ l i).run P w = .ok () { w with heap := w.heap.setIfInBounds b (.cells ⟨layL cs (off + i) l⟩ T (0, 0)) } := by
  intro l
  induction l with
  | nil =>
    intro w cs off i h _ _
    obtain ⟨hlt, he⟩ := Array.getElem?_eq_some_iff.1 h
    have : w.heap.setIfInBounds b (.cells ⟨cs⟩ T (0, 0)) = w.heap := by
      apply Array.ext
      · simp
      · intro j h1 h2
        rw [Array.getElem_setIfInBounds]
        split
        · rename_i e; subst e; exact he.symm
        · rfl
    simp [storeCells, layL, this]
  | cons v l ih =>
    intro w cs off i h hlen hv
    simp only [List.length_cons] at hlen
    have hlt : b < w.heap.size := (Array.getElem?_eq_some_iff.1 h).1
    simp only [storeCells, Sem.run_bind, Addr.add_none]
    rw [run_storeOne h (by omega) (hv v (by simp))]
    simp only [Result.andThen_ok]
    rw [ih _ (cs.set (off + i) v) off (i + 1) (by simp [hlt]) (by simp; omega) (fun u hu => hv u (by simp [hu]))]
    simp [layL, Nat.add_assoc]

theorem run_storeVar {n : Nat} [SzOf P t n] {b off : Nat} {cs : List Value} {T : TypeId} {v : Value} (h : w.heap[b]? = some (.cells ⟨cs⟩ T (0, 0))) (hn : v.cells.size = n) (hlt : off + n ≤ cs.length) (hv : ∀ u, u ∈ v.cells.toList → oneV u = true) :
    (storeVar t ⟨b, off, none⟩ v).run P w = .ok () { w with heap := w.heap.setIfInBounds b (.cells ⟨layL cs off v.cells.toList⟩ T (0, 0)) } := by
  unfold storeVar
  simp only [Sem.run_bind, run_sizeOf (SzOf.size (P := P) (t := t) (n := n)), Result.andThen_ok, hn, ne_eq, not_true_eq_false, if_false, Sem.run_pure]
  exact run_storeCells v.cells.toList w cs off 0 h (by simp [hn]; omega) hv
end

section
variable {C : Cx} {ds : List Deferred} {env : Env} {h : Hp} {L L' : List Hp} {Q : Exit → Act → World → Prop} {ops : Array Oper} {rest : List (Oper × Kd)} {k : Kd}
variable {d : Nat} {op : Op} {ty : TypeId} {pos : String} {after : Array Edge} {v : Value}

/-! ### Arithmetic -/
def arI : BinOp → IntKind → Int → Int → Option Int
  | .add, q, a, b => some (q.wrap (a + b))
  | .sub, q, a, b => some (q.wrap (a - b))
  | .mul, q, a, b => some (q.wrap (a * b))
  | _, _, _, _ => none
theorem J.ar {o : BinOp} {x y : Operand} {q : IntKind} {m n r : Int} {t t' : TypeId} (ex : evE env x = some (.int q m)) (ey : evE env y = some (.int q n)) (hb : arI o q m n = some r) (hlt : Nat.blt d C.nt = true)
    (j : J C (WC C.r C.P ops Q rest) ds ((d, .int q r) :: env) h L) :
    J C (WC C.r C.P ops Q ((⟨some d, .binOp o t x y t', ty, pos, after, none⟩, k) :: rest)) ds env h L :=
  J.pure0 hlt rfl (fun a k w => by
    cases o <;> simp only [arI, Option.some.injEq, reduceCtorEq] at hb
    all_goals subst hb
    all_goals simp [execOp, k.eval ex, k.eval ey, binOp, Op.intArith, eqGuard]) j
theorem wrap64_id {n : Int} (h1 : -9223372036854775808 ≤ n) (h2 : n ≤ 9223372036854775807) : IntKind.i64.wrap n = n := by
  unfold IntKind.wrap IntKind.bits IntKind.signed
  simp only [Bool.true_and, decide_eq_true_eq]
  have : (2 : Int) ^ 64 = 18446744073709551616 := by decide
  have h' : (2 : Int) ^ (64 - 1) = 9223372036854775808 := by decide
  rw [this, h']
  split <;> omega
theorem wrapu64_id {n : Int} (h1 : 0 ≤ n) (h2 : n ≤ 18446744073709551615) : IntKind.u64.wrap n = n := by
  unfold IntKind.wrap IntKind.bits IntKind.signed
  simp only [Bool.false_and, Bool.false_eq_true, if_false]
  have : (2 : Int) ^ 64 = 18446744073709551616 := by decide
  rw [this]
  omega
/-- A counter. -/
theorem J.inc {x y : Operand} {n : Nat} {t t' : TypeId} (ex : evE env x = some (.int .i64 (n : Int))) (ey : evE env y = some (.int .i64 1)) (hn : n < 4611686018427387904) (hlt : Nat.blt d C.nt = true)
    (j : J C (WC C.r C.P ops Q rest) ds ((d, .int .i64 ((n + 1 : Nat) : Int)) :: env) h L) :
    J C (WC C.r C.P ops Q ((⟨some d, .binOp .add t x y t', ty, pos, after, none⟩, k) :: rest)) ds env h L :=
  J.ar ex ey (by show some _ = _; rw [wrap64_id (by omega) (by omega)]; rfl) hlt j
theorem J.quo {o : BinOp} {x y : Operand} {q : IntKind} {m n r : Int} {t t' : TypeId} (ex : evE env x = some (.int q m)) (ey : evE env y = some (.int q n)) (hn : n ≠ 0) (ho : o = .quo ∧ r = q.wrap (m.tdiv n) ∨ o = .rem ∧ r = m.tmod n) (hlt : Nat.blt d C.nt = true)
    (j : J C (WC C.r C.P ops Q rest) ds ((d, .int q r) :: env) h L) :
    J C (WC C.r C.P ops Q ((⟨some d, .binOp o t x y t', ty, pos, after, none⟩, k) :: rest)) ds env h L :=
  J.pure0 hlt rfl (fun a k w => by
    rcases ho with ⟨rfl, rfl⟩ | ⟨rfl, rfl⟩ <;> simp [execOp, k.eval ex, k.eval ey, binOp, Op.intDiv, eqGuard, hn]) j
theorem J.not {x : Operand} {b : Bool} {t : TypeId} (ex : evE env x = some (.bool b)) (hlt : Nat.blt d C.nt = true) (j : J C (WC C.r C.P ops Q rest) ds ((d, .bool (!b)) :: env) h L) :
    J C (WC C.r C.P ops Q ((⟨some d, .unOp .not t x, ty, pos, after, none⟩, k) :: rest)) ds env h L :=
  J.pure0 hlt rfl (fun a k w => by simp [execOp, k.eval ex, Op.unary]) j
theorem J.cvI {x : Operand} {q q' : IntKind} {n : Int} {t t' : TypeId} [IsIn C.P t q] [IsIn C.P t' q'] (ex : evE env x = some (.int q n)) (hlt : Nat.blt d C.nt = true) (j : J C (WC C.r C.P ops Q rest) ds ((d, .int q' (q'.wrap n)) :: env) h L) :
    J C (WC C.r C.P ops Q ((⟨some d, .convert t t' x, ty, pos, after, none⟩, k) :: rest)) ds env h L :=
  J.pure0 hlt rfl (fun a k w => by simp [execOp, k.eval ex, convert, run_underlying' (IsIn.eq (P := C.P) (t := t)), run_underlying' (IsIn.eq (P := C.P) (t := t')), Conv.intToInt]) j

/-! ### Strings -/
theorem strEq (a b : ByteArray) : (a.toList == b.toList) = decide (a = b) := by
  rw [Bool.eq_iff_iff]
  simp only [beq_iff_eq, decide_eq_true_eq]
  refine ⟨fun e => ?_, fun e => by rw [e]⟩
  rw [ByteArray.toList_eq, ByteArray.toList_eq] at e
  cases a; cases b
  simp only [ByteArray.mk.injEq]
  exact Array.toList_inj.1 e
/-- is one text less than another? -/
def strLt (a b : ByteArray) : Bool := Op.bytesLess a.toList b.toList
def cmpS : BinOp → ByteArray → ByteArray → Option Bool
  | .eql, a, b => some (decide (a = b))
  | .neq, a, b => some (!decide (a = b))
  | .lss, a, b => some (strLt a b)
  | .leq, a, b => some (strLt a b || decide (a = b))
  | .gtr, a, b => some (!(strLt a b || decide (a = b)))
  | .geq, a, b => some (!strLt a b)
  | _, _, _ => none
theorem J.cmpS {o : BinOp} {x y : Operand} {m n : ByteArray} {t t' : TypeId} {b : Bool} (ex : evE env x = some (.string m)) (ey : evE env y = some (.string n)) (hb : cmpS o m n = some b) (hlt : Nat.blt d C.nt = true)
    (j : J C (WC C.r C.P ops Q rest) ds ((d, .bool b) :: env) h L) :
    J C (WC C.r C.P ops Q ((⟨some d, .binOp o t x y t', ty, pos, after, none⟩, k) :: rest)) ds env h L :=
  J.pure0 hlt rfl (fun a k w => by
    cases o <;> simp only [Sod.cmpS, Option.some.injEq, reduceCtorEq] at hb
    all_goals subst hb
    all_goals simp [execOp, k.eval ex, k.eval ey, binOp, Op.stringOp, eqGuard, strLt, strEq]) j
theorem J.cat {x y : Operand} {m n : ByteArray} {t t' : TypeId} (ex : evE env x = some (.string m)) (ey : evE env y = some (.string n)) (hb : m.size + n.size ≤ 9223372036854775807) (hlt : Nat.blt d C.nt = true)
    (j : J C (WC C.r C.P ops Q rest) ds ((d, .string (m ++ n)) :: env) h L) :
    J C (WC C.r C.P ops Q ((⟨some d, .binOp .add t x y t', ty, pos, after, none⟩, k) :: rest)) ds env h L :=
  J.pure0 hlt rfl (fun a k w => by
    have hm : ¬ ((m.size + n.size : Nat) : Int) > IntKind.i64.max := by
      have : IntKind.i64.max = 9223372036854775807 := by decide
      rw [this]; omega
    simp only [execOp, k.eval ex, k.eval ey, binOp, Op.stringOp, eqGuard, hm]
    simp) j
theorem J.lenS {t : TypeId} {x : Operand} {s : ByteArray} {tys : Array TypeId} [IsSt C.P t] (ht : tys = #[t]) (ex : evE env x = some (.string s)) (hlt : Nat.blt d C.nt = true)
    (j : J C (WC C.r C.P ops Q rest) ds ((d, .int .i64 (s.size : Int)) :: env) h L) :
    J C (WC C.r C.P ops Q ((⟨some d, .call { callee := .builtin .len, args := #[x], argTypes := tys }, ty, pos, after, none⟩, k) :: rest)) ds env h L :=
  J.pure0 hlt rfl (fun a k w => by
    subst ht
    simp [execOp, resolve, invoke, builtin, Builtin.len_, k.eval ex, run_underlying' (IsSt.eq (P := C.P) (t := t)), goInt]) j
theorem J.lenL {t e : TypeId} {x : Operand} {A : Option Addr} {n c : Nat} {tys : Array TypeId} [IsSl C.P t e] (ht : tys = #[t]) (ex : evE env x = some (.slice A n c)) (hlt : Nat.blt d C.nt = true)
    (j : J C (WC C.r C.P ops Q rest) ds ((d, .int .i64 (n : Int)) :: env) h L) :
    J C (WC C.r C.P ops Q ((⟨some d, .call { callee := .builtin .len, args := #[x], argTypes := tys }, ty, pos, after, none⟩, k) :: rest)) ds env h L :=
  J.pure0 hlt rfl (fun a k w => by
    subst ht
    simp [execOp, resolve, invoke, builtin, Builtin.len_, k.eval ex, run_underlying' (IsSl.eq (P := C.P) (t := t)), goInt]) j
theorem J.minI {x y : Operand} {q : IntKind} {m n : Int} {tys : Array TypeId} (ex : evE env x = some (.int q m)) (ey : evE env y = some (.int q n)) (hlt : Nat.blt d C.nt = true)
    (j : J C (WC C.r C.P ops Q rest) ds ((d, .int q (min m n)) :: env) h L) :
    J C (WC C.r C.P ops Q ((⟨some d, .call { callee := .builtin .min, args := #[x, y], argTypes := tys }, ty, pos, after, none⟩, k) :: rest)) ds env h L :=
  J.pure0 hlt rfl (fun a k w => by
    have : (if n < m then n else m) = min m n := by split <;> omega
    simp [execOp, resolve, invoke, builtin, Builtin.min_, Builtin.min2, k.eval ex, k.eval ey, this]) j
theorem J.maxI {x y : Operand} {q : IntKind} {m n : Int} {tys : Array TypeId} (ex : evE env x = some (.int q m)) (ey : evE env y = some (.int q n)) (hlt : Nat.blt d C.nt = true)
    (j : J C (WC C.r C.P ops Q rest) ds ((d, .int q (max m n)) :: env) h L) :
    J C (WC C.r C.P ops Q ((⟨some d, .call { callee := .builtin .max, args := #[x, y], argTypes := tys }, ty, pos, after, none⟩, k) :: rest)) ds env h L :=
  J.pure0 hlt rfl (fun a k w => by
    have : (if n > m then n else m) = max m n := by split <;> omega
    simp [execOp, resolve, invoke, builtin, Builtin.max_, Builtin.max2, k.eval ex, k.eval ey, this]) j

/-! ### Structs, functions, tuples -/
theorem J.mkF {fn : Fn} {first captured : Array Operand} {fs cs : List Value} (e1 : evL env first.toList = some fs) (e2 : evL env captured.toList = some cs) (hlt : Nat.blt d C.nt = true)
    (j : J C (WC C.r C.P ops Q rest) ds ((d, .func fn ⟨fs⟩ ⟨cs⟩) :: env) h L) :
    J C (WC C.r C.P ops Q ((⟨some d, .makeFunc fn first captured, ty, pos, after, none⟩, k) :: rest)) ds env h L :=
  J.pure0 hlt rfl (fun a k w => by
    have h1 : first.map a.eval = ⟨fs⟩ := by rw [← k.evalL e1]; apply Array.toList_inj.1; simp
    have h2 : captured.map a.eval = ⟨cs⟩ := by rw [← k.evalL e2]; apply Array.toList_inj.1; simp
    simp only [execOp, Instr.makeFunc, h1, h2]
    simp) j
theorem J.ext {x : Operand} {i : Nat} {vs : List Value} (ex : evE env x = some (.tuple ⟨vs⟩)) (hi : vs[i]? = some v) (hlt : Nat.blt d C.nt = true) (j : J C (WC C.r C.P ops Q rest) ds ((d, v) :: env) h L) :
    J C (WC C.r C.P ops Q ((⟨some d, .extract x i, ty, pos, after, none⟩, k) :: rest)) ds env h L :=
  J.pure0 hlt rfl (fun a k w => by simp [execOp, k.eval ex, Instr.extract, hi]) j
theorem J.fa {t : TypeId} {x : Operand} {f off ft b o : Nat} [q : Fld C.P t f off ft] (ex : evE env x = some (.pointer (some ⟨b, o, none⟩))) (hlt : Nat.blt d C.nt = true)
    (j : J C (WC C.r C.P ops Q rest) ds ((d, .pointer (some ⟨b, o + off, none⟩)) :: env) h L) :
    J C (WC C.r C.P ops Q ((⟨some d, .fieldAddr t x f, ty, pos, after, none⟩, k) :: rest)) ds env h L :=
  J.pure0 hlt rfl (fun a k w => by
    obtain ⟨fs, fd, h1, h2, h3, h4⟩ := q.eq
    obtain ⟨n, hn⟩ := q.size
    subst h4
    simp [execOp, k.eval ex, Instr.fieldAt, run_underlying' h1, h2, Instr.sureAddr, fieldPlace, run_sizeOf hn, Addr.add_none, h3]) j
theorem J.fld {t : TypeId} {x : Operand} {f off ft : Nat} {cs : List Value} [q : Fld C.P t f off ft] [Scal C.P ft] (ex : evE env x = some (.agg ⟨cs⟩)) (hv : cs[off]? = some v) (hlt : Nat.blt d C.nt = true)
    (j : J C (WC C.r C.P ops Q rest) ds ((d, v) :: env) h L) :
    J C (WC C.r C.P ops Q ((⟨some d, .field t x f, ty, pos, after, none⟩, k) :: rest)) ds env h L :=
  J.pure0 hlt rfl (fun a k w => by
    obtain ⟨fs, fd, h1, h2, h3, h4⟩ := q.eq
    subst h4
    simp [execOp, k.eval ex, Instr.field, run_underlying' h1, h2, asAgg, part, run_isAgg false (Scal.eq (P := C.P) (t := fd.type)), h3, hv]) j

/-! ### Reading -/
theorem J.ld {t : TypeId} {x : Operand} {b off : Nat} {cs : List Value} {T : TypeId} {fr : Nat × Nat} [Scal C.P t] [q : At h L b (.cells ⟨cs⟩ T fr)] (ex : evE env x = some (.pointer (some ⟨b, off, none⟩))) (hv : cs[off]? = some v) (hk : okRead k = true)
    (hlt : Nat.blt d C.nt = true) (j : J C (WC C.r C.P ops Q rest) ds ((d, v) :: env) h L) : J C (WC C.r C.P ops Q ((⟨some d, .load t x, ty, pos, after, none⟩, k) :: rest)) ds env h L :=
  J.read0 hk hlt rfl (fun a k w s w' hg => by
    have hb := hg.get (q.blk s)
    simp only [execOp, k.eval ex, Instr.loadAt, Instr.sureAddr, pure_bind]
    rw [Sem.run_bind, run_loadScal (cell_of hb hv)]; rfl) j
theorem J.ldA {t : TypeId} {x : Operand} {b off n : Nat} {cs : List Value} {T : TypeId} {fr : Nat × Nat} [Aggr C.P t n] [q : At h L b (.cells ⟨cs⟩ T fr)] (l : List Value) (ex : evE env x = some (.pointer (some ⟨b, off, none⟩)))
    (hl : l.length = n) (hj : (cs.drop off).take n = l) (hk : okRead k = true)
    (hlt : Nat.blt d C.nt = true) (j : J C (WC C.r C.P ops Q rest) ds ((d, .agg ⟨l⟩) :: env) h L) : J C (WC C.r C.P ops Q ((⟨some d, .load t x, ty, pos, after, none⟩, k) :: rest)) ds env h L :=
  J.read0 hk hlt rfl (fun a k w s w' hg => by
    have hb := hg.get (q.blk s)
    simp only [execOp, k.eval ex, Instr.loadAt, Instr.sureAddr, pure_bind]
    rw [Sem.run_bind, run_loadAgg hb hl (fun j hjl => by
      rw [← hj, List.getElem?_take, if_pos (by omega), List.getElem?_drop])]; rfl) j
/-- The whole of a box. -/
theorem J.ldW {t : TypeId} {x : Operand} {b n : Nat} {cs : List Value} {T : TypeId} {fr : Nat × Nat} [Aggr C.P t n] [q : At h L b (.cells ⟨cs⟩ T fr)] (ex : evE env x = some (.pointer (some ⟨b, 0, none⟩)))
    (hl : cs.length = n) (hk : okRead k = true)
    (hlt : Nat.blt d C.nt = true) (j : J C (WC C.r C.P ops Q rest) ds ((d, .agg ⟨cs⟩) :: env) h L) : J C (WC C.r C.P ops Q ((⟨some d, .load t x, ty, pos, after, none⟩, k) :: rest)) ds env h L :=
  J.ldA cs ex hl (by simp [← hl]) hk hlt j

/-! ### New memory, stores -/
def cellsV (v : Value) : List Value := v.cells.toList
theorem J.box {e : TypeId} {x : Operand} {cs : List Value} (ex : evE env x = some v) (hc : cellsV v = cs) (hk : okGrow k = true) (hlt : Nat.blt d C.nt = true)
    (j : ∀ b, J C (WC C.r C.P ops Q rest) ds ((d, .pointer (some ⟨b, 0, none⟩)) :: env) h (one b (.cells ⟨cs⟩ e (0, 0)) :: L)) :
    J C (WC C.r C.P ops Q ((⟨some d, .box e x, ty, pos, after, none⟩, k) :: rest)) ds env h L :=
  J.new0 (vf := fun b => .pointer (some ⟨b, 0, none⟩)) (o := .cells ⟨cs⟩ e (0, 0)) hk hlt rfl (fun a k w => by
    subst hc
    simp [execOp, k.eval ex, Instr.box, newVar, newRow, cellsV]) j
theorem J.alloc {e : TypeId} {z : Value} {cs : List Value} [q : Zer C.P e z] (hc : cellsV z = cs) (hk : okGrow k = true) (hlt : Nat.blt d C.nt = true)
    (j : ∀ b, J C (WC C.r C.P ops Q rest) ds ((d, .pointer (some ⟨b, 0, none⟩)) :: env) h (one b (.cells ⟨cs⟩ e (0, 0)) :: L)) :
    J C (WC C.r C.P ops Q ((⟨some d, .alloc e, ty, pos, after, none⟩, k) :: rest)) ds env h L :=
  J.new0 (vf := fun b => .pointer (some ⟨b, 0, none⟩)) (o := .cells ⟨cs⟩ e (0, 0)) hk hlt rfl (fun a k w => by
    subst hc
    simp [execOp, Instr.alloc, newVar, newRow, cellsV, run_zeroValue q.eq]) j
theorem J.stS {t : TypeId} {x y : Operand} {b off : Nat} {cs cs' : List Value} {T : TypeId} [SzOf C.P t 1] [SetL cs off v cs'] [q : BoxSet L b (.cells ⟨cs⟩ T (0, 0)) (.cells ⟨cs'⟩ T (0, 0)) L'] (ex : evE env x = some (.pointer (some ⟨b, off, none⟩))) (ey : evE env y = some v) (hv : oneV v = true) (hk : okMut k = true)
    (j : J C (WC C.r C.P ops Q rest) ds env h L') : J C (WC C.r C.P ops Q ((⟨none, .store t x y, ty, pos, after, none⟩, k) :: rest)) ds env h L :=
  J.put0 hk rfl (fun a k w s => by
    obtain ⟨hb, s'⟩ := q.st s
    refine ⟨_, ?_, s'⟩
    have hlt : off < cs.length := SetL.lt (v := v) (l' := cs')
    have hc := (oneV_cells hv).1
    simp only [execOp, k.eval ex, k.eval ey, Instr.storeAt, Instr.sureAddr, pure_bind]
    rw [Sem.run_bind, run_storeVar (n := 1) hb (by simp [hc]) (by omega) (by simp [hc, hv])]
    simp [hc, layL, SetL.eq (l := cs) (i := off) (v := v)]) j
/-- The whole of a box is written. -/
theorem J.stW {t : TypeId} {x y : Operand} {b n : Nat} {cs l : List Value} {T : TypeId} [SzOf C.P t n] [q : BoxWh L b cs T l L'] (ex : evE env x = some (.pointer (some ⟨b, 0, none⟩))) (ey : evE env y = some (.agg ⟨l⟩)) (hv : l.all oneV = true) (hn : Nat.beq cs.length n = true) (hl : Nat.beq l.length n = true) (hk : okMut k = true)
    (j : J C (WC C.r C.P ops Q rest) ds env h L') : J C (WC C.r C.P ops Q ((⟨none, .store t x y, ty, pos, after, none⟩, k) :: rest)) ds env h L :=
  J.put0 hk rfl (fun a k w s => by
    have hn := Nat.eq_of_beq_eq_true hn
    have hl := Nat.eq_of_beq_eq_true hl
    obtain ⟨hb, s'⟩ := q.ex.st s
    refine ⟨_, ?_, s'⟩
    simp only [execOp, k.eval ex, k.eval ey, Instr.storeAt, Instr.sureAddr, pure_bind]
    rw [Sem.run_bind, run_storeVar (n := n) hb (by simpa [Value.cells] using hl) (by omega) (by simpa [Value.cells] using hv)]
    simp [Value.cells, layL_whole (hl.trans hn.symm)]) j
end
end Go.Sod
