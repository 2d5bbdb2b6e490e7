/-
  Slices: read, built, appended to. Conditions: none.
-/
import Derived.Test.YtemcklmfpapmpaaGreatCore5
import Derived.Laws.Append
namespace Go.Sod
set_option linter.unusedVariables false
set_option linter.unusedSimpArgs false

/-- A slice's length that is let. -/
def maxL : Nat := 4294967296

/-- From cell o on behind an address these lie. -/
def ElAt (h : Hp) (A : Option Addr) (o : Nat) (vs : List Value) : Prop :=
  ∃ b off all T fr, A = some ⟨b, off, none⟩ ∧ h b = some (.cells ⟨all⟩ T fr) ∧ ∀ j, j < vs.length → all[off + o + j]? = vs[j]?
theorem ElAt.mono {h h' : Hp} {A : Option Addr} {o : Nat} {vs : List Value} (e : ElAt h A o vs) (l : h.le h') : ElAt h' A o vs := by
  obtain ⟨b, off, all, T, fr, h1, h2, h3⟩ := e
  exact ⟨b, off, all, T, fr, h1, l _ _ h2, h3⟩

/-- How a datum lies in cells. -/
abbrev Rp (α : Type) := Hp → α → List Value → Prop
/-- what lies so, lies so where more lies -/
def Mono {α : Type} (R : Rp α) : Prop := ∀ h h' x vs, h.le h' → R h x vs → R h' x vs

/-- A slice reads as a list. -/
def SlR {α : Type} (h : Hp) (sz : Nat) (R : Rp α) (v : Value) (xs : List α) : Prop :=
  ∃ A c, v = .slice A xs.length c ∧ xs.length ≤ c ∧ xs.length ≤ maxL ∧ ∀ i (hi : i < xs.length), ∃ vs, vs.length = sz ∧ vs.all oneV = true ∧ R h xs[i] vs ∧ ElAt h A (i * sz) vs
theorem SlR.mono {α : Type} {h h' : Hp} {sz : Nat} {R : Rp α} {v : Value} {xs : List α} (s : SlR h sz R v xs) (hR : Mono R) (l : h.le h') : SlR h' sz R v xs := by
  obtain ⟨A, c, h1, h2, h3, h4⟩ := s
  refine ⟨A, c, h1, h2, h3, fun i hi => ?_⟩
  obtain ⟨vs, a, o, b, e⟩ := h4 i hi
  exact ⟨vs, a, o, hR _ _ _ _ l b, e.mono l⟩
theorem SlR.nil {α : Type} (h : Hp) (sz : Nat) (R : Rp α) : SlR h sz R (.slice none 0 0) ([] : List α) := ⟨none, 0, rfl, Nat.le_refl _, by simp [maxL], fun i hi => by simp at hi⟩
theorem SlR.len {α : Type} {h : Hp} {sz : Nat} {R : Rp α} {v : Value} {xs : List α} (s : SlR h sz R v xs) : xs.length ≤ maxL := by obtain ⟨_, _, _, _, h, _⟩ := s; exact h
/-- the form of its value -/
theorem SlR.form {α : Type} {h : Hp} {sz : Nat} {R : Rp α} {v : Value} {xs : List α} (s : SlR h sz R v xs) : ∃ A c, v = .slice A xs.length c := by obtain ⟨A, c, h, _⟩ := s; exact ⟨A, c, h⟩

def RS : Rp ByteArray := fun _ s vs => vs = [.string s]
theorem RS.mono : Mono RS := fun _ _ _ _ _ h => h
def RI (q : IntKind) : Rp Int := fun _ n vs => vs = [.int q n]
theorem RI.mono (q : IntKind) : Mono (RI q) := fun _ _ _ _ _ h => h

/-- the address of a cell behind a slice's begin -/
def pAt (v : Value) (o : Nat) : Value := match v with
  | .slice (some ⟨b, off, none⟩) _ _ => .pointer (some ⟨b, off + o, none⟩)
  | _ => undef

section
variable {C : Cx} {ds : List Deferred} {env : Env} {h : Hp} {L L' : List Hp} {Q : Exit → Act → World → Prop} {ops : Array Oper} {rest : List (Oper × Kd)} {k : Kd}
variable {d : Nat} {op : Op} {ty : TypeId} {pos : String} {after : Array Edge} {v : Value}

theorem J.len {α : Type} {t e sz : Nat} {R : Rp α} {xs : List α} {x : Operand} {tys : Array TypeId} [IsSl C.P t e] (s : SlR h sz R v xs) (ht : tys = #[t]) (ex : evE env x = some v) (hlt : Nat.blt d C.nt = true)
    (j : J C (WC C.r C.P ops Q rest) ds ((d, .int .i64 (xs.length : Int)) :: env) h L) :
    J C (WC C.r C.P ops Q ((⟨some d, .call { callee := .builtin .len, args := #[x], argTypes := tys }, ty, pos, after, none⟩, k) :: rest)) ds env h L := by
  obtain ⟨A, c, rfl⟩ := s.form
  exact J.lenL ht ex hlt j

/-- Indexing a slice that is read. -/
theorem J.ix {α : Type} {t e sz : Nat} {R : Rp α} {xs : List α} {x y : Operand} {q : IntKind} {n : Int} {i : Nat} [IsSl C.P t e] [SzOf C.P e sz] (s : SlR h sz R v xs) (ex : evE env x = some v) (ey : evE env y = some (.int q n)) (hn : n = (i : Int)) (hi : i < xs.length) (hlt : Nat.blt d C.nt = true)
    (j : J C (WC C.r C.P ops Q rest) ds ((d, pAt v (i * sz)) :: env) h L) :
    J C (WC C.r C.P ops Q ((⟨some d, .indexAddr t x y, ty, pos, after, none⟩, k) :: rest)) ds env h L :=
  J.pure0 hlt rfl (fun a k w => by
    obtain ⟨A, c, rfl, h2, h3, h4⟩ := s
    obtain ⟨vs, _, _, _, b, off, all, T, fr, rfl, _, _⟩ := h4 i hi
    subst hn
    have hb : (0 : Int) ≤ (i : Int) ∧ (i : Int) < (xs.length : Int) := by omega
    simp [execOp, k.eval ex, k.eval ey, Instr.indexAt, asIntOf, run_underlying' (IsSl.eq (P := C.P) (t := t)), hb, run_sizeOf (SzOf.size (P := C.P) (t := e) (n := sz)), Addr.add_none, pAt, hi]) j
/-- A field of what lies there. -/
theorem J.faE {t : TypeId} {x : Operand} {f off ft o : Nat} [q : Fld C.P t f off ft] (ex : evE env x = some (pAt v o)) (hv : ∃ b of n c, v = .slice (some ⟨b, of, none⟩) n c) (hlt : Nat.blt d C.nt = true)
    (j : J C (WC C.r C.P ops Q rest) ds ((d, pAt v (o + off)) :: env) h L) :
    J C (WC C.r C.P ops Q ((⟨some d, .fieldAddr t x f, ty, pos, after, none⟩, k) :: rest)) ds env h L := by
  obtain ⟨b, of, n, c, rfl⟩ := hv
  refine J.fa (q := q) (b := b) (o := of + o) (by rw [ex]; rfl) hlt ?_
  have e : pAt (.slice (some ⟨b, of, none⟩) n c) (o + off) = .pointer (some ⟨b, of + o + off, none⟩) := by simp [pAt, Nat.add_assoc]
  rw [e] at j
  exact j
theorem SlR.ne {α : Type} {h : Hp} {sz : Nat} {R : Rp α} {xs : List α} (s : SlR h sz R v xs) (hp : 0 < xs.length) : ∃ b of n c, v = .slice (some ⟨b, of, none⟩) n c := by
  obtain ⟨A, c, rfl, _, _, h4⟩ := s
  obtain ⟨_, _, _, _, b, off, _, _, _, rfl, _, _⟩ := h4 0 hp
  exact ⟨b, off, _, _, rfl⟩

theorem ElAt.run {w0 w : World} {M0 : Nat → Prop} {h0 : Hp} {A : Option Addr} {o : Nat} {vs : List Value} (e : ElAt h A o vs) (s : St w0 M0 h0 w h L) {w' : World} (hg : GrowW w w') :
    ∃ b off all T fr, A = some ⟨b, off, none⟩ ∧ w'.heap[b]? = some (.cells ⟨all⟩ T fr) ∧ ∀ j, j < vs.length → all[off + o + j]? = vs[j]? := by
  obtain ⟨b, off, all, T, fr, h1, h2, h3⟩ := e
  exact ⟨b, off, all, T, fr, h1, hg.get (s.hin _ _ h2), h3⟩

/-- Loading an element that is a struct. -/
theorem J.ldE {α : Type} {t sz : Nat} {R : Rp α} {xs : List α} {x : Operand} {i : Nat} [Aggr C.P t sz] (s : SlR h sz R v xs) (hi : i < xs.length) (ex : evE env x = some (pAt v (i * sz))) (hk : okRead k = true) (hlt : Nat.blt d C.nt = true)
    (j : ∀ vs : List Value, R h xs[i] vs → J C (WC C.r C.P ops Q rest) ds ((d, .agg ⟨vs⟩) :: env) h L) :
    J C (WC C.r C.P ops Q ((⟨some d, .load t x, ty, pos, after, none⟩, k) :: rest)) ds env h L := by
  obtain ⟨A, c, rfl, h2, h3, h4⟩ := s
  obtain ⟨vs, hl, _, hR, he⟩ := h4 i hi
  refine J.read0 (v := .agg ⟨vs⟩) hk hlt rfl (fun a k w st w' hg => ?_) (j vs hR)
  obtain ⟨b, off, all, T, fr, rfl, hb, hj⟩ := he.run st hg
  have hx := k.eval ex
  simp only [execOp, hx, pAt, Instr.loadAt, Instr.sureAddr, pure_bind]
  rw [Sem.run_bind, run_loadAgg (n := sz) hb hl (fun j hjl => hj j hjl)]; rfl
/-- Loading an element of one cell. -/
theorem J.ld1 {α : Type} {t : Nat} {R : Rp α} {xs : List α} {x : Operand} {i : Nat} [Scal C.P t] (s : SlR h 1 R v xs) (hi : i < xs.length) (ex : evE env x = some (pAt v (i * 1))) (hk : okRead k = true) (hlt : Nat.blt d C.nt = true)
    (j : ∀ u : Value, R h xs[i] [u] → J C (WC C.r C.P ops Q rest) ds ((d, u) :: env) h L) :
    J C (WC C.r C.P ops Q ((⟨some d, .load t x, ty, pos, after, none⟩, k) :: rest)) ds env h L := by
  obtain ⟨A, c, rfl, h2, h3, h4⟩ := s
  obtain ⟨vs, hl, _, hR, he⟩ := h4 i hi
  obtain ⟨u, rfl⟩ := List.length_eq_one_iff.1 hl
  refine J.read0 (v := u) hk hlt rfl (fun a k w st w' hg => ?_) (j u hR)
  obtain ⟨b, off, all, T, fr, rfl, hb, hj⟩ := he.run st hg
  have hx := k.eval ex
  have h0 : all[off + i * 1]? = some u := by simpa using hj 0 (by simp)
  simp only [execOp, hx, pAt, Instr.loadAt, Instr.sureAddr, pure_bind]
  rw [Sem.run_bind, run_loadScal (cell_of hb h0)]; rfl
/-- Loading one field of an element. -/
theorem J.ldF {α : Type} {t sz : Nat} {R : Rp α} {xs : List α} {x : Operand} {i off : Nat} [Scal C.P t] (s : SlR h sz R v xs) (hi : i < xs.length) (ex : evE env x = some (pAt v (i * sz + off))) (hv : ∃ u, ∀ vs, vs.length = sz → R h xs[i] vs → vs[off]? = some u) (hk : okRead k = true) (hlt : Nat.blt d C.nt = true)
    (j : ∀ u : Value, (∃ vs, R h xs[i] vs ∧ vs[off]? = some u) → J C (WC C.r C.P ops Q rest) ds ((d, u) :: env) h L) :
    J C (WC C.r C.P ops Q ((⟨some d, .load t x, ty, pos, after, none⟩, k) :: rest)) ds env h L := by
  obtain ⟨A, c, rfl, h2, h3, h4⟩ := s
  obtain ⟨vs, hl, _, hR, he⟩ := h4 i hi
  obtain ⟨u, hu⟩ := hv
  have hu := hu vs hl hR
  refine J.read0 (v := u) hk hlt rfl (fun a k w st w' hg => ?_) (j u ⟨vs, hR, hu⟩)
  obtain ⟨b, of, all, T, fr, rfl, hb, hj⟩ := he.run st hg
  have hx := k.eval ex
  have hlt : off < vs.length := by rw [List.getElem?_eq_some_iff] at hu; exact hu.1
  have h0 : all[of + (i * sz + off)]? = some u := by have := hj off hlt; rw [hu] at this; rw [← this]; congr 1; omega
  simp only [execOp, hx, pAt, Instr.loadAt, Instr.sureAddr, pure_bind]
  rw [Sem.run_bind, run_loadScal (cell_of hb h0)]; rfl
end

/-! ### A slice of one's own -/
/-- the cells cs, n elements of sz cells each, in a block of one's own with room behind -/
def SlO (m : Hp) (v : Value) (sz : Nat) (e : TypeId) (cs : List Value) (n : Nat) : Prop :=
  cs.length = n * sz ∧ n ≤ maxL ∧ ((v = .slice none 0 0 ∧ cs = [] ∧ n = 0 ∧ m = Hp.emp) ∨
    ∃ b cap all, v = .slice (some ⟨b, 0, none⟩) n cap ∧ m = one b (.cells ⟨all⟩ e (0, 0)) ∧ all.length = cap * sz ∧ n ≤ cap ∧ ∀ i, i < cs.length → all[i]? = cs[i]?)
theorem SlO.nil (sz : Nat) (e : TypeId) : SlO Hp.emp (.slice none 0 0) sz e [] 0 := ⟨by simp, by simp [maxL], .inl ⟨rfl, rfl, rfl, rfl⟩⟩
/-- a block just built -/
theorem SlO.mk {b n sz : Nat} {cs : List Value} {e : TypeId} (hl : cs.length = n * sz) (hn : n ≤ maxL) : SlO (one b (.cells ⟨cs⟩ e (0, 0))) (.slice (some ⟨b, 0, none⟩) n n) sz e cs n :=
  ⟨hl, hn, .inr ⟨b, n, cs, rfl, rfl, hl, Nat.le_refl _, fun i _ => rfl⟩⟩
theorem SlO.form {m : Hp} {v : Value} {sz n : Nat} {e : TypeId} {cs : List Value} (s : SlO m v sz e cs n) : ∃ A c, v = .slice A n c := by
  rcases s.2.2 with ⟨rfl, _, rfl, _⟩ | ⟨b, cap, all, rfl, _⟩
  · exact ⟨none, 0, rfl⟩
  · exact ⟨_, cap, rfl⟩

theorem chunk_get {cs : List Value} {n sz i : Nat} (hl : cs.length = n * sz) (hi : i < n) : ((cs.drop (i * sz)).take sz).length = sz := by
  rw [List.length_take, List.length_drop, hl]
  have : (i + 1) * sz ≤ n * sz := Nat.mul_le_mul_right _ hi
  rw [Nat.succ_mul] at this
  omega
/-- What is one's own is read. -/
theorem SlO.reads {α : Type} {m : Hp} {v : Value} {sz n : Nat} {e : TypeId} {cs : List Value} (s : SlO m v sz e cs n) {h : Hp} (hm : m.le h) {R : Rp α} {xs : List α} (hn : xs.length = n)
    (hR : ∀ i (hi : i < xs.length), ((cs.drop (i * sz)).take sz).all oneV = true ∧ R h xs[i] ((cs.drop (i * sz)).take sz)) : SlR h sz R v xs := by
  obtain ⟨hl, hb, s⟩ := s
  subst hn
  rcases s with ⟨rfl, rfl, h0, rfl⟩ | ⟨b, cap, all, rfl, rfl, h1, h2, h3⟩
  · obtain rfl := List.eq_nil_of_length_eq_zero h0
    exact SlR.nil h sz R
  · refine ⟨_, cap, rfl, h2, hb, fun i hi => ⟨_, chunk_get hl hi, (hR i hi).1, (hR i hi).2, b, 0, all, e, (0, 0), rfl, hm b _ (one_same _ _), fun j hj => ?_⟩⟩
    have hc := chunk_get hl hi
    rw [hc] at hj
    have hb2 : (i + 1) * sz ≤ xs.length * sz := Nat.mul_le_mul_right _ hi
    rw [Nat.succ_mul] at hb2
    rw [Nat.zero_add, h3 _ (by omega), List.getElem?_take, if_pos hj, List.getElem?_drop]

/-- Where a part stands in the list; what stands there behind. -/
class HpSet (L : List Hp) (m : Hp) (m' : Hp) (L' : outParam (List Hp)) : Prop where
  ex : ∃ R, L.Perm (m :: R) ∧ L'.Perm (m' :: R)
instance HpSet.head (L : List Hp) (m m' : Hp) : HpSet (m :: L) m m' (m' :: L) := ⟨⟨L, List.Perm.refl _, List.Perm.refl _⟩⟩
instance HpSet.tail (k : Hp) (L : List Hp) (m m' : Hp) (L' : List Hp) [q : HpSet L m m' L'] : HpSet (k :: L) m m' (k :: L') := ⟨by
  obtain ⟨R, h1, h2⟩ := q.ex
  exact ⟨k :: R, (h1.cons k).trans (List.Perm.swap _ _ _), (h2.cons k).trans (List.Perm.swap _ _ _)⟩⟩

section
variable {P : Program} {w : World}
/-- Where the cells of an append's second operand lie. -/
def SrcAt (w : World) (x : Value) (ys : List Value) (n : Nat) : Prop :=
  (∃ A c, x = .slice A n c ∧ (0 < ys.length → ∃ b off all T fr, A = some ⟨b, off, none⟩ ∧ w.heap[b]? = some (.cells ⟨all⟩ T fr) ∧ ∀ j, j < ys.length → all[off + j]? = ys[j]?)) ∨
  (∃ s : ByteArray, x = .string s ∧ ys = (s.data.toList.map fun (b : UInt8) => Value.int .u8 b.toNat) ∧ n = s.size)
theorem run_lenOf {x : Value} {ys : List Value} {n : Nat} (h : SrcAt w x ys n) : (Builtin.lenOf x).run P w = .ok n w := by
  rcases h with ⟨A, c, rfl, _⟩ | ⟨s, rfl, _, rfl⟩ <;> simp [Builtin.lenOf]
theorem run_firstCells {x : Value} {ys : List Value} {n sz : Nat} (h : SrcAt w x ys n) (hl : ys.length = n * sz) : (Builtin.firstCells sz n x).run P w = .ok ⟨ys⟩ w := by
  rcases h with ⟨A, c, rfl, hA⟩ | ⟨s, rfl, rfl, rfl⟩
  · by_cases h0 : 0 < ys.length
    · obtain ⟨b, off, all, T, fr, rfl, hb, hj⟩ := hA h0
      simp only [Builtin.firstCells, loadCells, ← hl]
      rw [run_loadCellsFrom hb ys off 0 #[] (by simpa using hj)]
      simp
    · obtain rfl : ys = [] := List.eq_nil_of_length_eq_zero (by omega)
      cases A with
      | none => simp [Builtin.firstCells]
      | some a => simp only [Builtin.firstCells, loadCells, ← hl]; simp [loadCellsFrom]
  · have : s.extract 0 s.size = s := by
      apply ByteArray.ext
      simp
    simp [Builtin.firstCells, this]
    apply Array.toList_inj.1
    simp

theorem zeroCells_length (z : Array Value) (n : Nat) : (Builtin.zeroCells z n).size = n * z.size := by simp [Builtin.zeroCells]

/-- **append** to a slice of one's own. -/
theorem run_append {t t2 e sz by_ : Nat} {z v x : Value} [IsSl P t e] [SzOf P e sz] [ByOf P e by_] [Zer P e z] (hz : z.cells.size = sz) (ht2 : ∀ q, P.underlying t2 ≠ some (.int q)) (ht2s : (P.underlying t2).isSome = true) {m : Hp} {cs ys : List Value} {n n2 : Nat} (ho : SlO m v sz e cs n) (hs : SrcAt w x ys n2) (hys : ys.length = n2 * sz)
    (hv : ys.all oneV = true) (hn : n + n2 ≤ maxL) (hby : by_ ≤ 4096) (ty : TypeId) {w0 : World} {M0 : Nat → Prop} {hq h : Hp} {L : List Hp} (s : St w0 M0 hq w h (m :: L)) :
    ∃ v' m' w', (Builtin.append_ #[t, t2] ty #[v, x]).run P w = .ok v' w' ∧ SlO m' v' sz e (cs ++ ys) (n + n2) ∧ St w0 M0 hq w' h (m' :: L) := by
  obtain ⟨d2, hd2⟩ := Option.isSome_iff_exists.1 ht2s
  have hnz : ∀ q, d2 ≠ .int q := fun q e => ht2 q (by rw [hd2, e])
  obtain ⟨hl, hmx, ho⟩ := ho
  have hfirst := run_firstCells (P := P) hs hys
  have hlen := run_lenOf (P := P) hs
  have hmaxi : (IntKind.i64.max : Int) = 9223372036854775807 := by decide
  obtain ⟨inf, hinf, hinfb⟩ := Option.map_eq_some_iff.1 (ByOf.bytes (P := P) (t := e) (n := by_))
  have hti : ∀ w, (typeInfo e).run P w = .ok inf w := fun w => by simp [typeInfo, hinf]
  obtain ⟨A, c, rfl⟩ := SlO.form ⟨hl, hmx, ho⟩
  have h0 : (Builtin.append_ #[t, t2] ty #[.slice A n c, x]).run P w =
      (if n + n2 ≤ c then (Builtin.firstCells sz n2 x >>= fun new => (match A with | some a => storeCells (a.add (n * sz)) new.toList | none => pure ()) >>= fun _ => pure (Value.slice A (n + n2) c) : Sem Value).run P w
       else (choose (.appendCap (n + n2) c e) >>= fun newCap => askRoom (newCap * by_) >>= fun _ => Builtin.firstCells sz n (.slice A n c) >>= fun old => Builtin.firstCells sz n2 x >>= fun new =>
         newRow e (old ++ new ++ Builtin.zeroCells z.cells (newCap - (n + n2))) >>= fun a => pure (Value.slice (some a) (n + n2) newCap) : Sem Value).run P w) := by
    have hle : ¬ (((n + n2 : Nat) : Int) > IntKind.i64.max ∧ by_ = 0) := by rw [hmaxi]; unfold maxL at hn; omega
    unfold Builtin.append_
    simp only [List.getElem?_toArray, List.getElem?_cons_zero, List.getElem?_cons_succ, Sem.run_bind, run_underlying' (IsSl.eq (P := P) (t := t) (e := e)), Result.andThen_ok, run_sizeOf (SzOf.size (P := P) (t := e) (n := sz)), run_underlying' hd2, Sem.run_pure, hlen, Bool.false_eq_true, if_false, Bool.not_false, if_true, Sem.run_ite]
    by_cases hc : n + n2 ≤ c
    · rw [if_pos hc, if_pos hc]
      simp only [Sem.run_bind, hfirst, Result.andThen_ok]
      cases A <;> simp
    · rw [if_neg hc, if_neg hc]
      simp only [hti, Result.andThen_ok, false_or, hle, if_false, hinfb]
      have hfit : ¬ (Builtin.nextslicecap (n + n2) c * by_ > 2 ^ 48) := by
        have hb : (n + n2) * by_ ≤ 140737488355328 := by
          have : (n + n2) * by_ ≤ 4294967296 * 4096 := Nat.mul_le_mul hn hby
          omega
        have := growslice_fits (old := c) (by omega) hb
        omega
      simp only [hfit, if_false, Sem.run_bind, Result.andThen_ok, run_zeroValue (Zer.eq (P := P) (t := e) (v := z)), Sem.run_pure, hti, hinfb]
  rw [h0]
  have hall : ∀ u, u ∈ ys → oneV u = true := fun u hu => (List.all_eq_true.1 hv) u hu
  have hlen2 : (cs ++ ys).length = (n + n2) * sz := by rw [List.length_append, hl, hys, Nat.add_mul]
  by_cases hc : n + n2 ≤ c
  · rw [if_pos hc]
    rcases ho with ⟨he, rfl, rfl, rfl⟩ | ⟨b, cap, all, he, rfl, h1, h2, h3⟩
    · simp only [Value.slice.injEq] at he
      obtain ⟨rfl, _, rfl⟩ := he
      have hn2 : n2 = 0 := by omega
      subst hn2
      obtain rfl : ys = [] := List.eq_nil_of_length_eq_zero (by simpa using hys)
      refine ⟨.slice none 0 0, Hp.emp, w, ?_, SlO.nil sz e, s⟩
      simp only [Sem.run_bind, hfirst, Result.andThen_ok, Sem.run_pure]
    · simp only [Value.slice.injEq] at he
      obtain ⟨rfl, _, rfl⟩ := he
      have hb : w.heap[b]? = some (.cells ⟨all⟩ e (0, 0)) := s.lin _ (List.mem_cons_self ..) b _ (one_same _ _)
      have hroom : n * sz + ys.length ≤ all.length := by
        rw [h1, hys, ← Nat.add_mul]; exact Nat.mul_le_mul_right _ hc
      refine ⟨.slice (some ⟨b, 0, none⟩) (n + n2) c, one b (.cells ⟨layL all (n * sz) ys⟩ e (0, 0)), _, ?_, ⟨hlen2, hn, .inr ⟨b, c, _, rfl, rfl, by rw [layL_length, h1], hc, ?_⟩⟩, s.put⟩
      · simp only [Sem.run_bind, hfirst, Result.andThen_ok, Addr.add_none]
        have := run_storeCells (P := P) ys w all (0 + n * sz) 0 hb (by omega) hall
        rw [this]
        simp
      · intro i hi
        rw [layL_get ys all (n * sz) i hroom, List.length_append] at *
        by_cases hic : i < cs.length
        · rw [if_neg (by omega), h3 i hic, List.getElem?_append_left hic]
        · rw [if_pos (by omega), List.getElem?_append_right (by omega), hl]
  · rw [if_neg hc]
    have hself : SrcAt w (.slice A n c) cs n := by
      refine .inl ⟨A, c, rfl, fun hpos => ?_⟩
      rcases ho with ⟨he, rfl, rfl, rfl⟩ | ⟨b, cap, all, he, rfl, h1, h2, h3⟩
      · simp at hpos
      · simp only [Value.slice.injEq] at he
        obtain ⟨rfl, _, rfl⟩ := he
        exact ⟨b, 0, all, e, (0, 0), rfl, s.lin _ (List.mem_cons_self ..) b _ (one_same _ _), fun j hj => by rw [Nat.zero_add]; exact h3 j hj⟩
    obtain ⟨cap', hcap⟩ : ∃ cap', (Question.appendCap (n + n2) c e).cut (w.tape w.drawn (.appendCap (n + n2) c e)) = cap' := ⟨_, rfl⟩
    have hge : n + n2 ≤ cap' := by rw [← hcap]; simp only [Question.cut]; omega
    have hself' : SrcAt { w with drawn := w.drawn + 1 } (.slice A n c) cs n := hself
    have hs' : SrcAt { w with drawn := w.drawn + 1 } x ys n2 := hs
    have sd : St w0 M0 hq { w with drawn := w.drawn + 1 } h L := (s.sub (List.sublist_cons_self ..)).drew
    refine ⟨.slice (some ⟨w.heap.size, 0, none⟩) (n + n2) cap', one w.heap.size (.cells ⟨cs ++ ys ++ (Builtin.zeroCells z.cells (cap' - (n + n2))).toList⟩ e (0, 0)), _, ?_, ⟨hlen2, hn, .inr ⟨_, cap', _, rfl, rfl, ?_, hge, ?_⟩⟩, sd.alloc _⟩
    · simp only [Sem.run_bind, run_choose, Question.forced, Bool.false_eq_true, if_false, hcap, Result.andThen_ok, run_askRoom, run_firstCells hself' hl, run_firstCells hs' hys, newRow, run_newObj, Sem.run_pure]
      congr 2
      show w.heap.push _ = w.heap.push _
      congr 2
      apply Array.toList_inj.1
      simp
    · simp only [List.length_append, hl, hys, Array.length_toList, zeroCells_length, hz]
      rw [← Nat.add_mul, ← Nat.add_mul]
      congr 1
      omega
    · intro i hi
      rw [List.getElem?_append_left hi]
end

/-- A slice of one's own, by what lies in it. -/
def SlT {α : Type} (m h : Hp) (v : Value) (sz : Nat) (e : TypeId) (R : Rp α) (xs : List α) : Prop :=
  ∃ cs, SlO m v sz e cs xs.length ∧ ∀ i (hi : i < xs.length), ((cs.drop (i * sz)).take sz).all oneV = true ∧ R h xs[i] ((cs.drop (i * sz)).take sz)
theorem SlT.nil {α : Type} (h : Hp) (sz : Nat) (e : TypeId) (R : Rp α) : SlT Hp.emp h (.slice none 0 0) sz e R ([] : List α) := ⟨[], SlO.nil sz e, fun i hi => by simp at hi⟩
theorem SlT.mono {α : Type} {m h h' : Hp} {v : Value} {sz : Nat} {e : TypeId} {R : Rp α} {xs : List α} (s : SlT m h v sz e R xs) (hR : Mono R) (l : h.le h') : SlT m h' v sz e R xs := by
  obtain ⟨cs, s1, s2⟩ := s
  exact ⟨cs, s1, fun i hi => ⟨(s2 i hi).1, hR _ _ _ _ l (s2 i hi).2⟩⟩
theorem SlT.reads {α : Type} {m h : Hp} {v : Value} {sz : Nat} {e : TypeId} {R : Rp α} {xs : List α} (s : SlT m h v sz e R xs) (hR : Mono R) {h' : Hp} (hm : m.le h') (hh : h.le h') : SlR h' sz R v xs := by
  obtain ⟨cs, s1, s2⟩ := s
  exact s1.reads hm rfl fun i hi => ⟨(s2 i hi).1, hR _ _ _ _ hh (s2 i hi).2⟩
theorem SlT.len {α : Type} {m h : Hp} {v : Value} {sz : Nat} {e : TypeId} {R : Rp α} {xs : List α} (s : SlT m h v sz e R xs) : xs.length ≤ maxL := by obtain ⟨_, s1, _⟩ := s; exact s1.2.1

theorem chunk_append {cs ys : List Value} {n sz i : Nat} (hl : cs.length = n * sz) (hi : i < n) : (((cs ++ ys).drop (i * sz)).take sz) = ((cs.drop (i * sz)).take sz) := by
  have hb2 : (i + 1) * sz ≤ n * sz := Nat.mul_le_mul_right _ hi
  rw [Nat.succ_mul] at hb2
  rw [List.drop_append_of_le_length (by omega), List.take_append_of_le_length (by rw [List.length_drop]; omega)]
theorem chunk_append' {cs ys : List Value} {n sz i : Nat} (hl : cs.length = n * sz) : (((cs ++ ys).drop ((n + i) * sz)).take sz) = ((ys.drop (i * sz)).take sz) := by
  rw [Nat.add_mul, ← hl, List.drop_append, List.drop_eq_nil_of_le (by omega), List.nil_append, Nat.add_sub_cancel_left]

theorem SlT.append {α : Type} {m' h : Hp} {v' : Value} {sz : Nat} {e : TypeId} {R : Rp α} {xs zs : List α} {cs ys : List Value}
    (hc : cs.length = xs.length * sz) (s2 : ∀ i (hi : i < xs.length), ((cs.drop (i * sz)).take sz).all oneV = true ∧ R h xs[i] ((cs.drop (i * sz)).take sz))
    (hz : ∀ i (hi : i < zs.length), ((ys.drop (i * sz)).take sz).all oneV = true ∧ R h zs[i] ((ys.drop (i * sz)).take sz)) (s' : SlO m' v' sz e (cs ++ ys) (xs.length + zs.length)) : SlT m' h v' sz e R (xs ++ zs) := by
  refine ⟨cs ++ ys, by rw [List.length_append]; exact s', fun i hi => ?_⟩
  by_cases hx : i < xs.length
  · rw [chunk_append hc hx, List.getElem_append_left hx]; exact s2 i hx
  · obtain ⟨j, rfl⟩ : ∃ j, i = xs.length + j := ⟨i - xs.length, by omega⟩
    have hi2 : j < zs.length := by rw [List.length_append] at hi; omega
    have := hz j hi2
    rw [List.getElem_append_right (by omega), chunk_append' hc]
    simpa using this

/-- Where a part stands, and what the list is with another one in its place. -/
class HpIn (L : List Hp) (m : Hp) (f : outParam (Hp → List Hp)) : Prop where
  ex : ∃ R, L.Perm (m :: R) ∧ ∀ m', (f m').Perm (m' :: R)
instance HpIn.head (L : List Hp) (m : Hp) : HpIn (m :: L) m (fun m' => m' :: L) := ⟨⟨L, List.Perm.refl _, fun _ => List.Perm.refl _⟩⟩
instance HpIn.tail (k : Hp) (L : List Hp) (m : Hp) (f : Hp → List Hp) [q : HpIn L m f] : HpIn (k :: L) m (fun m' => k :: f m') := ⟨by
  obtain ⟨R, h1, h2⟩ := q.ex
  exact ⟨k :: R, (h1.cons k).trans (List.Perm.swap _ _ _), fun m' => ((h2 m').cons k).trans (List.Perm.swap _ _ _)⟩⟩

class NotInt (P : Program) (t : TypeId) : Prop where
  isS : (P.underlying t).isSome = true
  ne : ∀ q, P.underlying t ≠ some (.int q)
instance NotInt.sl (P : Program) (t e : TypeId) [q : IsSl P t e] : NotInt P t := ⟨by rw [q.eq]; rfl, fun k => by rw [q.eq]; simp⟩
instance NotInt.st (P : Program) (t : TypeId) [q : IsSt P t] : NotInt P t := ⟨by rw [q.eq]; rfl, fun k => by rw [q.eq]; simp⟩
/-- an element type: its cells, its bytes, its zero -/
class Elt (P : Program) (e : TypeId) (sz : outParam Nat) : Prop where
  size : (P.info? e).map (·.size) = some sz
  bytes : ∃ b, (P.info? e).map (·.bytes) = some b ∧ b ≤ 4096
  zero : ∃ z, (P.info? e).map (·.zero) = some (some z) ∧ z.cells.size = sz

section
variable {C : Cx} {ds : List Deferred} {env : Env} {h : Hp} {L L' : List Hp} {Q : Exit → Act → World → Prop} {ops : Array Oper} {rest : List (Oper × Kd)} {k : Kd}
variable {d : Nat} {op : Op} {ty : TypeId} {pos : String} {after : Array Edge} {v : Value}

/-- append to a slice of one's own -/
theorem J.app0 {t t2 e sz n n2 : Nat} {s x : Operand} {xv : Value} {m : Hp} {cs ys : List Value} {f : Hp → List Hp} {tys : Array TypeId} [IsSl C.P t e] [q : Elt C.P e sz] [ni : NotInt C.P t2] [hi : HpIn L m f] (ht : tys = #[t, t2])
    (ho : SlO m v sz e cs n) (es : evE env s = some v) (ex : evE env x = some xv) (hsrc : ∀ w, St C.w0 C.M0 C.h0 w h L → SrcAt w xv ys n2) (hys : ys.length = n2 * sz) (hv : ys.all oneV = true) (hn : n + n2 ≤ maxL) (hk : okMut k = true) (hlt : Nat.blt d C.nt = true)
    (j : ∀ v' m', SlO m' v' sz e (cs ++ ys) (n + n2) → J C (WC C.r C.P ops Q rest) ds ((d, v') :: env) h (f m')) :
    J C (WC C.r C.P ops Q ((⟨some d, .call { callee := .builtin .append, args := #[s, x], argTypes := tys }, ty, pos, after, none⟩, k) :: rest)) ds env h L := by
  subst ht
  refine J.op0 (α := Value × Hp) (vf := fun x => x.1) (hf := fun _ => h) (Lf := fun x => f x.2) (Φ := fun x => SlO x.2 x.1 sz e (cs ++ ys) (n + n2)) hk hlt rfl (fun a k w st => ?_) (fun x hx => j x.1 x.2 hx)
  obtain ⟨R, h1, h2⟩ := hi.ex
  obtain ⟨by_, hb1, hb2⟩ := q.bytes
  obtain ⟨z, hz1, hz2⟩ := q.zero
  haveI : SzOf C.P e sz := ⟨q.size⟩
  haveI : ByOf C.P e by_ := ⟨hb1⟩
  haveI : Zer C.P e z := ⟨hz1⟩
  obtain ⟨v', m', w', hr, ho', s'⟩ := run_append (P := C.P) (t := t) (t2 := t2) (by_ := by_) (z := z) hz2 ni.ne ni.isS ho (hsrc w st) hys hv hn hb2 ty (st.perm h1)
  refine ⟨(v', m'), w', ho', ?_, s'.perm (h2 m').symm⟩
  simp only [execOp, resolve, invoke, builtin, List.map_toArray, List.map_cons, List.map_nil, k.eval es, k.eval ex]
  simp [hr]

theorem srcBox {b n2 c : Nat} {ys : List Value} {T : TypeId} {fr : Nat × Nat} [q : At h L b (.cells ⟨ys⟩ T fr)] : ∀ w, St C.w0 C.M0 C.h0 w h L → SrcAt w (.slice (some ⟨b, 0, none⟩) n2 c) ys n2 := fun w s =>
  .inl ⟨_, c, rfl, fun _ => ⟨b, 0, ys, T, fr, rfl, q.blk s, fun j _ => by rw [Nat.zero_add]⟩⟩
theorem srcStr (s : ByteArray) : ∀ w, St C.w0 C.M0 C.h0 w h L → SrcAt w (.string s) (s.data.toList.map fun (b : UInt8) => Value.int .u8 b.toNat) s.size := fun w _ => .inr ⟨s, rfl, rfl, rfl⟩

/-- the cells of a slice that is read -/
theorem SlR.flat {α : Type} {sz : Nat} {R : Rp α} {xs : List α} (s : SlR h sz R v xs) : ∃ ys : List Value, ys.length = xs.length * sz ∧ ys.all oneV = true ∧ (∀ i (hi : i < xs.length), ((ys.drop (i * sz)).take sz).all oneV = true ∧ R h xs[i] ((ys.drop (i * sz)).take sz)) ∧
    ∀ w, St C.w0 C.M0 C.h0 w h L → SrcAt w v ys xs.length := by
  obtain ⟨A, c, rfl, h2, h3, h4⟩ := s
  have key : ∀ n, n ≤ xs.length → ∃ ys : List Value, ys.length = n * sz ∧ ys.all oneV = true ∧ (∀ i (hi : i < n) (hi' : i < xs.length), ((ys.drop (i * sz)).take sz).all oneV = true ∧ R h xs[i] ((ys.drop (i * sz)).take sz)) ∧
      (0 < n → ∃ b off all T fr, A = some ⟨b, off, none⟩ ∧ h b = some (.cells ⟨all⟩ T fr) ∧ ∀ j, j < ys.length → all[off + j]? = ys[j]?) := by
    intro n
    induction n with
    | zero => intro _; exact ⟨[], by simp, rfl, fun i hi => by omega, fun h => by omega⟩
    | succ n ih =>
      intro hn
      obtain ⟨ys, y1, y2, y3, y4⟩ := ih (by omega)
      obtain ⟨vs, a1, a2, a3, b, off, all, T, fr, rfl, hb, hj⟩ := h4 n (by omega)
      refine ⟨ys ++ vs, by rw [List.length_append, y1, a1, Nat.succ_mul], by rw [List.all_append, y2, a2]; rfl, fun i hi hi' => ?_, fun _ => ⟨b, off, all, T, fr, rfl, hb, fun j hjl => ?_⟩⟩
      · by_cases e : i < n
        · rw [chunk_append y1 e]; exact y3 i e hi'
        · obtain rfl : i = n := by omega
          have := chunk_append' (cs := ys) (ys := vs) (n := i) (sz := sz) (i := 0) y1
          rw [Nat.add_zero] at this
          rw [this, Nat.zero_mul, List.drop_zero, List.take_of_length_le (by omega)]
          exact ⟨a2, a3⟩
      · by_cases e : j < ys.length
        · rw [List.getElem?_append_left e]
          have hn0 : 0 < n := by
            cases n with
            | zero => simp at y1; rw [y1] at e; simp at e
            | succ n => omega
          obtain ⟨b', off', all', T', fr', e1, e2, e3⟩ := y4 hn0
          simp only [Option.some.injEq, Addr.mk.injEq] at e1
          obtain ⟨rfl, rfl, _⟩ := e1
          rw [hb] at e2
          simp only [Option.some.injEq, Obj.cells.injEq, Array.mk.injEq] at e2
          obtain ⟨rfl, _⟩ := e2
          exact e3 j e
        · rw [List.getElem?_append_right (by omega)]
          rw [List.length_append] at hjl
          have := hj (j - ys.length) (by omega)
          rw [← this]; congr 1; omega
  obtain ⟨ys, y1, y2, y3, y4⟩ := key xs.length (Nat.le_refl _)
  refine ⟨ys, y1, y2, fun i hi => y3 i hi hi, fun w s => .inl ⟨A, c, rfl, fun hp => ?_⟩⟩
  obtain ⟨b, off, all, T, fr, e1, e2, e3⟩ := y4 (by
    cases hx : xs.length with
    | zero => rw [hx] at y1; simp at y1; rw [y1] at hp; simp at hp
    | succ n => omega)
  exact ⟨b, off, all, T, fr, e1, s.hin _ _ e2, e3⟩

/-- append, by what lies in the slices: one element that was just built -/
theorem J.app1 {α : Type} {t t2 e sz b c : Nat} {s x : Operand} {m : Hp} {ys : List Value} {T : TypeId} {fr : Nat × Nat} {f : Hp → List Hp} {tys : Array TypeId} {R : Rp α} {xs : List α} {z : α} [IsSl C.P t e] [q : Elt C.P e sz] [ni : NotInt C.P t2] [hi : HpIn L m f] [qa : At h L b (.cells ⟨ys⟩ T fr)] (ht : tys = #[t, t2])
    (ho : SlT m h v sz e R xs) (es : evE env s = some v) (ex : evE env x = some (.slice (some ⟨b, 0, none⟩) 1 c)) (hys : ys.length = sz) (hv : ys.all oneV = true) (hz : R h z ys) (hn : xs.length < maxL) (hk : okMut k = true) (hlt : Nat.blt d C.nt = true)
    (j : ∀ v' m', SlT m' h v' sz e R (xs ++ [z]) → J C (WC C.r C.P ops Q rest) ds ((d, v') :: env) h (f m')) :
    J C (WC C.r C.P ops Q ((⟨some d, .call { callee := .builtin .append, args := #[s, x], argTypes := tys }, ty, pos, after, none⟩, k) :: rest)) ds env h L := by
  obtain ⟨cs, s1, s2⟩ := ho
  refine J.app0 (n2 := 1) ht s1 es ex (srcBox (ys := ys)) (by rw [hys, Nat.one_mul]) hv hn hk hlt (fun v' m' ho' => j v' m' ?_)
  refine SlT.append s1.1 s2 (fun i hi => ?_) ho'
  obtain rfl : i = 0 := by simp at hi; omega
  rw [Nat.zero_mul, List.drop_zero, List.take_of_length_le (by omega)]
  exact ⟨hv, hz⟩
/-- append, by what lies in the slices: all of a slice that is read -/
theorem J.appL {α : Type} {t t2 e sz : Nat} {s x : Operand} {m : Hp} {xv : Value} {f : Hp → List Hp} {tys : Array TypeId} {R : Rp α} {xs zs : List α} [IsSl C.P t e] [q : Elt C.P e sz] [ni : NotInt C.P t2] [hi : HpIn L m f] (ht : tys = #[t, t2])
    (ho : SlT m h v sz e R xs) (es : evE env s = some v) (hx : SlR h sz R xv zs) (ex : evE env x = some xv) (hn : xs.length + zs.length ≤ maxL) (hk : okMut k = true) (hlt : Nat.blt d C.nt = true)
    (j : ∀ v' m', SlT m' h v' sz e R (xs ++ zs) → J C (WC C.r C.P ops Q rest) ds ((d, v') :: env) h (f m')) :
    J C (WC C.r C.P ops Q ((⟨some d, .call { callee := .builtin .append, args := #[s, x], argTypes := tys }, ty, pos, after, none⟩, k) :: rest)) ds env h L := by
  obtain ⟨cs, s1, s2⟩ := ho
  obtain ⟨ys, y1, y2, y3, y4⟩ := SlR.flat (C := C) (L := L) hx
  exact J.app0 (n2 := zs.length) ht s1 es ex y4 y1 y2 hn hk hlt (fun v' m' ho' => j v' m' (SlT.append s1.1 s2 y3 ho'))

/-- What was one's own is read from now on. -/
theorem J.frz {K : Act → World → Prop} {α : Type} {m : Hp} {r : List Hp} {sz : Nat} {e : TypeId} {R : Rp α} {xs : List α} (ho : SlT m h v sz e R xs) (hR : Mono R) (j : ∀ h', h.le h' → SlR h' sz R v xs → J C K ds env h' r) : J C K ds env h (m :: r) := by
  intro a w s
  obtain ⟨d1, _⟩ := List.pairwise_cons.1 s.2.2.2.dis
  have hd : h.dis m := d1 m (List.mem_cons_self ..)
  exact J.freeze (j (h.un m) (Hp.le_un_left _ _) (ho.reads hR (Hp.le_un_right hd) (Hp.le_un_left _ _))) a w s
end
end Go.Sod
