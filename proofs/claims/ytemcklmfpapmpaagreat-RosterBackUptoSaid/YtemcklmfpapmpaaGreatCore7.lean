/-
  Structs and slices that are built; calls; results; a range over a function. Conditions: none.
-/
import Derived.Test.YtemcklmfpapmpaaGreatCore6
namespace Go.Sod
set_option linter.unusedVariables false
set_option linter.unusedSimpArgs false

/-! ### Structs and slices that are built -/
theorem foldl_lay (l : List Value) : ∀ (cs : List Value) (off j : Nat), (l.zipIdx j).foldl (fun (cs : Array Value) (x : Value × Nat) => cs.setIfInBounds (off + x.2) x.1) ⟨cs⟩ = ⟨layL cs (off + j) l⟩ := by
  induction l with
  | nil => intro cs off j; rfl
  | cons v l ih =>
    intro cs off j
    simp only [List.zipIdx_cons, List.foldl_cons, layL]
    rw [List.setIfInBounds_toArray]
    rw [ih]
    rfl

def fillL (place : Nat → Option (Nat × Nat)) : List Value → List (Nat × Value) → Option (List Value)
  | cs, [] => some cs
  | cs, (i, v) :: rest => match place i with
    | none => none
    | some (off, size) => bif Nat.beq (cellsV v).length size && Nat.ble (off + size) cs.length then fillL place (layL cs off (cellsV v)) rest else none
theorem fillL_eq (place : Nat → Option (Nat × Nat)) : ∀ (parts : List (Nat × Value)) (cs cs' : List Value), fillL place cs parts = some cs' → Instr.fill place ⟨cs⟩ parts = some ⟨cs'⟩ := by
  intro parts
  induction parts with
  | nil => intro cs cs' h; simp [fillL] at h; subst h; rfl
  | cons p parts ih =>
    obtain ⟨i, v⟩ := p
    intro cs cs' h
    simp only [fillL] at h
    cases hp : place i with
    | none => simp [hp] at h
    | some q =>
      obtain ⟨off, size⟩ := q
      simp only [hp] at h
      cases hb : (Nat.beq (cellsV v).length size && Nat.ble (off + size) cs.length) with
      | false => simp [hb] at h
      | true =>
        simp only [hb, cond_true] at h
        simp only [Bool.and_eq_true] at hb
        have h1 := Nat.eq_of_beq_eq_true hb.1
        have h2 := Nat.le_of_ble_eq_true hb.2
        have hs : v.cells.size = size := by rw [← h1]; simp [cellsV]
        unfold Instr.fill
        simp only [hp]
        have hc : (decide (v.cells.size ≠ size) || decide (off + v.cells.size > (⟨cs⟩ : Array Value).size)) = false := by
          simp only [Bool.or_eq_false_iff, decide_eq_false_iff_not]
          refine ⟨by simp [hs], ?_⟩
          rw [hs]; show ¬ off + size > cs.length; omega
        rw [hc]
        simp only [Bool.false_eq_true, if_false]
        have hf : v.cells.zipIdx.foldl (fun (cs : Array Value) (x : Value × Nat) => cs.setIfInBounds (off + x.2) x.1) ⟨cs⟩ = ⟨layL cs off (cellsV v)⟩ := by
          rw [← Array.foldl_toList, Array.toList_zipIdx]
          have := foldl_lay (cellsV v) cs off 0
          rw [Nat.add_zero] at this
          exact this
        rw [hf]
        exact ih _ _ h

/-- a struct type: its zero's cells, where its fields lie -/
class Str (P : Program) (t : TypeId) (zs : outParam (List Value)) (pl : outParam (List (Nat × Nat))) : Prop where
  zero : (P.info? t).map (·.zero) = some (some (.agg ⟨zs⟩))
  flds : ∃ fs, P.underlying t = some (.struct fs) ∧ fs.toList.map (fun f => (f.offset, P.info? f.type |>.map (·.size))) = pl.map (fun x => (x.1, some x.2))
/-- parts' operands evaluated -/
def evP (env : Env) : List (Nat × Operand) → Option (List (Nat × Value))
  | [] => some []
  | (i, x) :: r => match evE env x with
    | some v => (match evP env r with | some vs => some ((i, v) :: vs) | none => none)
    | none => none
theorem Knows.evalP {env : Env} {a : Act} (k : Knows env a) : ∀ {xs : List (Nat × Operand)} {vs : List (Nat × Value)}, evP env xs = some vs → xs.map (fun (i, x) => (i, a.eval x)) = vs := by
  intro xs
  induction xs with
  | nil => intro vs h; simpa [evP] using h
  | cons p xs ih =>
    obtain ⟨i, x⟩ := p
    intro vs h
    unfold evP at h
    cases hx : evE env x with
    | none => simp [hx] at h
    | some v =>
      cases hr : evP env xs with
      | none => simp [hx, hr] at h
      | some us =>
        simp only [hx, hr, Option.some.injEq] at h
        subst h
        rw [List.map_cons, ih hr]
        show (i, a.eval x) :: _ = _
        rw [k.eval hx]

section
variable {P : Program} {t : TypeId} {w : World}
theorem run_places : ∀ (fs : List Field) (pl : List (Nat × Nat)), fs.map (fun f => (f.offset, P.info? f.type |>.map (·.size))) = pl.map (fun x => (x.1, some x.2)) →
    ((fs.mapM fun f => do pure (f.offset, ← sizeOf f.type) : Sem (List (Nat × Nat)))).run P w = .ok pl w := by
  intro fs
  induction fs with
  | nil => intro pl h; cases pl <;> simp at h; simp
  | cons f fs ih =>
    intro pl h
    cases pl with
    | nil => simp at h
    | cons x pl =>
      simp only [List.map_cons, List.cons.injEq, Prod.mk.injEq] at h
      obtain ⟨⟨h1, h2⟩, h3⟩ := h
      rw [List.mapM_cons, Sem.run_bind, Sem.run_bind, run_sizeOf h2]
      simp only [Result.andThen_ok, Sem.run_pure, Sem.run_bind]
      rw [ih pl h3]
      simp [h1]

theorem run_build {zs cs : List Value} {pl : List (Nat × Nat)} [q : Str P t zs pl] {parts : List (Nat × Value)} (h : fillL (fun i => pl[i]?) zs parts = some cs) : (Instr.build t ⟨parts⟩).run P w = .ok (.agg ⟨cs⟩) w := by
  obtain ⟨fs, h1, h2⟩ := q.flds
  unfold Instr.build
  rw [Sem.run_bind, run_zeroValue q.zero]
  simp only [Result.andThen_ok, Value.cells, Sem.run_bind, run_underlying' h1]
  rw [Array.mapM_eq_mapM_toList, Sem.run_map]
  have := run_places (P := P) (w := w) fs.toList pl h2
  rw [this]
  simp only [Result.andThen_ok]
  have hf := fillL_eq (fun i => pl[i]?) parts zs cs h
  have he : (fun (x : Nat) => (pl.toArray : Array (Nat × Nat))[x]?) = fun i => pl[i]? := by funext i; simp
  rw [he, hf]
  simp
end

/-- what a literal of a slice lays: the parts, one behind the other -/
def flatV : List (Nat × Value) → List Value
  | [] => []
  | (_, v) :: r => cellsV v ++ flatV r
def inTurn (sz : Nat) : Nat → List (Nat × Value) → Bool
  | _, [] => true
  | n, (i, v) :: r => Nat.beq i n && Nat.beq (cellsV v).length sz && inTurn sz (n + 1) r

theorem layL_append (pre z post l : List Value) (h : z.length = l.length) : layL (pre ++ z ++ post) pre.length l = pre ++ l ++ post := by
  apply List.ext_getElem?
  intro i
  rw [layL_get l _ _ _ (by simp; omega)]
  by_cases h1 : i < pre.length
  · rw [if_neg (by omega), List.append_assoc, List.append_assoc, List.getElem?_append_left h1, List.getElem?_append_left h1]
  · by_cases h2 : i < pre.length + l.length
    · rw [if_pos (by omega), List.append_assoc, List.getElem?_append_right (by omega), List.getElem?_append_left (by omega)]
    · rw [if_neg (by omega), List.getElem?_append_right (by simp; omega), List.getElem?_append_right (by simp; omega)]
      simp [h]

theorem fill_turn (sz : Nat) : ∀ (parts : List (Nat × Value)) (n : Nat) (pre post : List Value), pre.length = n * sz → post.length = parts.length * sz → inTurn sz n parts = true →
    Instr.fill (fun i => some (i * sz, sz)) ⟨pre ++ post⟩ parts = some ⟨pre ++ flatV parts⟩ := by
  intro parts
  induction parts with
  | nil =>
    intro n pre post h1 h2 _
    obtain rfl : post = [] := List.eq_nil_of_length_eq_zero (by simpa using h2)
    simp [Instr.fill, flatV]
  | cons p parts ih =>
    obtain ⟨i, v⟩ := p
    intro n pre post h1 h2 h3
    simp only [inTurn, Bool.and_eq_true] at h3
    obtain ⟨⟨e1, e2⟩, e3⟩ := h3
    obtain rfl := Nat.eq_of_beq_eq_true e1
    have e2 := Nat.eq_of_beq_eq_true e2
    simp only [List.length_cons, Nat.succ_mul] at h2
    have hpost : post = post.take sz ++ post.drop sz := (List.take_append_drop sz post).symm
    have hpl : (post.take sz).length = sz := by rw [List.length_take]; omega
    have hl : layL (pre ++ post) pre.length (cellsV v) = pre ++ cellsV v ++ post.drop sz := by
      conv => lhs; rw [hpost, ← List.append_assoc]
      exact layL_append pre (post.take sz) (post.drop sz) (cellsV v) (by rw [hpl, e2])
    have hs : v.cells.size = sz := by rw [← e2]; simp [cellsV]
    unfold Instr.fill
    simp only []
    have hc : (decide (v.cells.size ≠ sz) || decide (i * sz + v.cells.size > (⟨pre ++ post⟩ : Array Value).size)) = false := by
      simp only [Bool.or_eq_false_iff, decide_eq_false_iff_not]
      refine ⟨by simp [hs], ?_⟩
      rw [hs]; show ¬ i * sz + sz > (pre ++ post).length
      rw [List.length_append]; omega
    rw [hc]
    simp only [Bool.false_eq_true, if_false]
    have hf : v.cells.zipIdx.foldl (fun (cs : Array Value) (x : Value × Nat) => cs.setIfInBounds (i * sz + x.2) x.1) ⟨pre ++ post⟩ = ⟨layL (pre ++ post) (i * sz) (cellsV v)⟩ := by
      rw [← Array.foldl_toList, Array.toList_zipIdx]
      have := foldl_lay (cellsV v) (pre ++ post) (i * sz) 0
      rw [Nat.add_zero] at this
      exact this
    rw [hf, ← h1, hl]
    rw [ih (i + 1) (pre ++ cellsV v) (post.drop sz) (by rw [List.length_append, h1, e2, Nat.succ_mul]) (by rw [List.length_drop]; omega) e3]
    simp [flatV]

section
variable {C : Cx} {ds : List Deferred} {env : Env} {h : Hp} {L L' : List Hp} {Q : Exit → Act → World → Prop} {ops : Array Oper} {rest : List (Oper × Kd)} {k : Kd}
variable {d : Nat} {op : Op} {ty : TypeId} {pos : String} {after : Array Edge} {v : Value}

theorem J.bld {t : TypeId} {ps : Array (Nat × Operand)} {zs : List Value} {pl : List (Nat × Nat)} {vs : List (Nat × Value)} (cs : List Value) [q : Str C.P t zs pl] (e : evP env ps.toList = some vs) (hf : fillL (fun i => pl[i]?) zs vs = some cs) (hlt : Nat.blt d C.nt = true)
    (j : J C (WC C.r C.P ops Q rest) ds ((d, .agg ⟨cs⟩) :: env) h L) :
    J C (WC C.r C.P ops Q ((⟨some d, .build t ps, ty, pos, after, none⟩, k) :: rest)) ds env h L :=
  J.pure0 hlt rfl (fun a k w => by
    have h1 : ps.map (fun (i, x) => (i, a.eval x)) = ⟨vs⟩ := by rw [← k.evalP e]; apply Array.toList_inj.1; simp
    show Sem.run C.P (Instr.build t (ps.map fun (i, x) => (i, a.eval x)) >>= fun v => pure (Next.value v)) w = _
    rw [h1, Sem.run_bind, run_build (zs := zs) (pl := pl) hf]; rfl) j
theorem J.bs {t e sz n : Nat} {ps : Array (Nat × Operand)} {vs : List (Nat × Value)} {z : Value} [q : IsSl C.P t e] [qs : SzOf C.P e sz] [qz : Zer C.P e z] (cs : List Value) (ev : evP env ps.toList = some vs) (ht : inTurn sz 0 vs = true) (hn : vs.length = n) (hz : z.cells.size = sz) (hsz : n * sz ≤ 4096) (hcs : flatV vs = cs) (hk : okGrow k = true) (hlt : Nat.blt d C.nt = true)
    (j : ∀ b, J C (WC C.r C.P ops Q rest) ds ((d, .slice (some ⟨b, 0, none⟩) n n) :: env) h (one b (.cells ⟨cs⟩ e (0, 0)) :: L)) :
    J C (WC C.r C.P ops Q ((⟨some d, .buildSlice t n ps, ty, pos, after, none⟩, k) :: rest)) ds env h L :=
  J.new0 (vf := fun b => .slice (some ⟨b, 0, none⟩) n n) (o := .cells ⟨cs⟩ e (0, 0)) hk hlt rfl (fun a k w => by
    have h1 : ps.map (fun (i, x) => (i, a.eval x)) = ⟨vs⟩ := by rw [← k.evalP ev]; apply Array.toList_inj.1; simp
    have hl : ¬ n * sz > 2 ^ 24 := by omega
    show Sem.run C.P (Instr.buildSlice t n (ps.map fun (i, x) => (i, a.eval x)) >>= fun v => pure (Next.value v)) w = _
    rw [h1]
    unfold Instr.buildSlice
    simp only [Sem.run_bind, run_underlying' q.eq, Result.andThen_ok, run_sizeOf qs.size, hl, if_false, Sem.run_pure]
    have key : ∀ zz : Array Value, (n * sz = 0 ∨ zz.size = sz) → Instr.fill (fun i => some (i * sz, sz)) ((Array.range (n * sz)).map (zz[· % zz.size]!)) vs = some ⟨cs⟩ := by
      intro zz hzz
      have := fill_turn sz vs 0 [] ((Array.range (n * sz)).map (zz[· % zz.size]!)).toList (by simp) (by simp [hn]) ht
      simp only [List.nil_append] at this
      rw [← hcs]
      exact this
    by_cases h0 : n * sz = 0
    · simp only [h0, if_true, Sem.run_pure, Result.andThen_ok, Sem.run_bind, pure_bind]
      have := key #[] (.inl h0)
      simp only [h0] at this
      rw [this]
      simp [newRow]
    · simp only [h0, if_false, Sem.run_bind, run_zeroValue qz.eq, Result.andThen_ok, Sem.run_pure]
      rw [key z.cells (.inr hz)]
      simp [newRow]) j
end
end Go.Sod
