/-
  A box that is read from now on. Conditions: none.
-/
import Derived.Test.YtemcklmfpapmpaaGreatCore12
namespace Go.Sod
set_option linter.unusedVariables false
theorem Hp.emp_dis' (k : Hp) : Hp.emp.dis k := fun b => .inl rfl
theorem J.frzB {C : Cx} {K : Act → World → Prop} {ds : List Deferred} {env : Env} {h : Hp} {b : Nat} {o : Obj} {r : List Hp} (j : ∀ h', h.le h' → h' b = some o → J C K ds env h' r) : J C K ds env h (one b o :: r) := by
  intro a w s
  obtain ⟨d1, _⟩ := List.pairwise_cons.1 s.2.2.2.dis
  have hd : h.dis (one b o) := d1 _ (List.mem_cons_self ..)
  exact J.freeze (j (h.un (one b o)) (Hp.le_un_left _ _) (Hp.le_un_right hd b o (one_same _ _))) a w s
theorem SlR.none {α : Type} {h : Hp} {sz n c : Nat} {R : Rp α} {xs : List α} (s : SlR h sz R (.slice none n c) xs) : xs = [] := by
  obtain ⟨A, c', e, _, _, h4⟩ := s
  cases xs with
  | nil => rfl
  | cons x xs =>
    obtain ⟨_, _, _, _, b, off, _, _, _, rfl, _⟩ := h4 0 (by simp)
    simp at e
/-- An empty part more. -/
theorem J.addE {C : Cx} {K : Act → World → Prop} {ds : List Deferred} {env : Env} {h : Hp} {L : List Hp} (j : J C K ds env h (Hp.emp :: L)) : J C K ds env h L :=
  J.st (fun w s => ⟨s.grow, s.le, s.hin, fun k hk => by
      rcases List.mem_cons.1 hk with rfl | hk
      · exact Hp.emp_inW w
      · exact s.lin k hk,
    by
      obtain ⟨d1, d2⟩ := List.pairwise_cons.1 s.dis
      refine List.pairwise_cons.2 ⟨fun k hk => ?_, List.pairwise_cons.2 ⟨fun k _ => Hp.emp_dis' k, d2⟩⟩
      rcases List.mem_cons.1 hk with rfl | hk
      · exact fun b => .inr rfl
      · exact d1 k hk,
    fun k hk b hb => by
      rcases List.mem_cons.1 hk with rfl | hk
      · exact (hb rfl).elim
      · exact s.own k hk b hb, s.fresh⟩) j
/-- The first n parts are let go. -/
theorem J.dropF {C : Cx} {K : Act → World → Prop} {ds : List Deferred} {env : Env} {h : Hp} {L : List Hp} (n : Nat) (j : J C K ds env h (L.drop n)) : J C K ds env h L := J.drop (List.drop_sublist n L) j
theorem inTurn_one {sz : Nat} {vs : List Value} (h : vs.length = sz) : inTurn sz 0 [(0, .agg ⟨vs⟩)] = true := by subst h; simp [inTurn, cellsV, Value.cells]
theorem flatV_one {vs : List Value} : flatV [(0, .agg ⟨vs⟩)] = vs := by simp [flatV, cellsV, Value.cells]
/-- a list of texts, just built -/
theorem SlT.strs {b : Nat} {h : Hp} {e : TypeId} {xs : List ByteArray} (hn : xs.length ≤ maxL) : SlT (one b (.cells ⟨xs.map .string⟩ e (0, 0))) h (.slice (some ⟨b, 0, none⟩) xs.length xs.length) 1 e RS xs :=
  ⟨xs.map .string, SlO.mk (by simp) hn, fun i hi => by
    have : ((xs.map Value.string).drop (i * 1)).take 1 = [.string xs[i]] := by
      rw [Nat.mul_one, List.drop_eq_getElem_cons (by simpa using hi)]; simp
    rw [this]; exact ⟨rfl, rfl⟩⟩

section
variable {C : Cx} {ds : List Deferred} {env : Env} {h : Hp} {L L' : List Hp} {Q : Exit → Act → World → Prop} {ops : Array Oper} {rest : List (Oper × Kd)} {k : Kd}
variable {d : Nat} {op : Op} {ty : TypeId} {pos : String} {after : Array Edge} {v : Value}
theorem J.dec {x y : Operand} {n : Nat} {t t' : TypeId} (ex : evE env x = some (.int .i64 (n : Int))) (ey : evE env y = some (.int .i64 1)) (h1 : 1 ≤ n) (hn : n < 4611686018427387904) (hlt : Nat.blt d C.nt = true)
    (j : J C (WC C.r C.P ops Q rest) ds ((d, .int .i64 ((n - 1 : Nat) : Int)) :: env) h L) :
    J C (WC C.r C.P ops Q ((⟨some d, .binOp .sub t x y t', ty, pos, after, none⟩, k) :: rest)) ds env h L :=
  J.ar ex ey (by show some _ = _; rw [wrap64_id (by omega) (by omega)]; congr 1; omega) hlt j
/-- Loading one field of an element, whose value is known. -/
theorem J.ldG {α : Type} {t sz : Nat} {R : Rp α} {xs : List α} {x : Operand} {i off : Nat} (u : Value) [Scal C.P t] (s : SlR h sz R v xs) (hi : i < xs.length) (ex : evE env x = some (pAt v (i * sz + off))) (hv : ∀ vs, R h xs[i] vs → vs[off]? = some u) (hk : okRead k = true) (hlt : Nat.blt d C.nt = true)
    (j : J C (WC C.r C.P ops Q rest) ds ((d, u) :: env) h L) :
    J C (WC C.r C.P ops Q ((⟨some d, .load t x, ty, pos, after, none⟩, k) :: rest)) ds env h L :=
  J.ldF s hi ex ⟨u, fun vs _ h => hv vs h⟩ hk hlt fun u' ⟨vs, h1, h2⟩ => by
    have := hv vs h1
    rw [h2] at this
    cases this
    exact j
/-- Loading one field of an element, whatever it is. -/
theorem J.ldX {α : Type} {t sz : Nat} {R : Rp α} {xs : List α} {x : Operand} {i off : Nat} [Scal C.P t] (s : SlR h sz R v xs) (hi : i < xs.length) (ex : evE env x = some (pAt v (i * sz + off))) (ho : Nat.blt off sz = true) (hk : okRead k = true) (hlt : Nat.blt d C.nt = true)
    (j : ∀ u : Value, (∃ vs, R h xs[i] vs ∧ vs[off]? = some u) → J C (WC C.r C.P ops Q rest) ds ((d, u) :: env) h L) :
    J C (WC C.r C.P ops Q ((⟨some d, .load t x, ty, pos, after, none⟩, k) :: rest)) ds env h L := by
  obtain ⟨A, c, rfl, h2, h3, h4⟩ := s
  obtain ⟨vs, hl, _, hR, he⟩ := h4 i hi
  have hlt' : off < vs.length := by rw [hl]; exact Nat.blt_eq ▸ ho
  have hu : vs[off]? = some vs[off] := List.getElem?_eq_getElem hlt'
  refine J.read0 (v := vs[off]) hk hlt rfl (fun a k w st w' hg => ?_) (j _ ⟨vs, hR, hu⟩)
  obtain ⟨b, of, all, T, fr, rfl, hb, hj⟩ := he.run st hg
  have hx := k.eval ex
  have h0 : all[of + (i * sz + off)]? = some vs[off] := by have := hj off hlt'; rw [hu] at this; rw [← this]; congr 1; omega
  simp only [execOp, hx, pAt, Instr.loadAt, Instr.sureAddr, pure_bind]
  rw [Sem.run_bind, run_loadScal (cell_of hb h0)]; rfl
end

theorem bytesLess_irrefl : ∀ (a : List UInt8), Op.bytesLess a a = false
  | [] => rfl
  | x :: a => by simp [Op.bytesLess, bytesLess_irrefl a]
theorem bytesLess_trans : ∀ (a b c : List UInt8), Op.bytesLess a b = true → Op.bytesLess b c = true → Op.bytesLess a c = true
  | _, [], _, h, _ => by simp [Op.bytesLess] at h
  | _, _ :: _, [], _, h => by simp [Op.bytesLess] at h
  | [], _ :: _, _ :: _, _, _ => rfl
  | x :: a, y :: b, z :: c, h1, h2 => by
    simp only [Op.bytesLess, Bool.or_eq_true, Bool.and_eq_true, decide_eq_true_eq, beq_iff_eq] at *
    rcases h1 with h1 | ⟨rfl, h1⟩
    · rcases h2 with h2 | ⟨rfl, h2⟩
      · exact .inl (UInt8.lt_trans h1 h2)
      · exact .inl h1
    · rcases h2 with h2 | ⟨rfl, h2⟩
      · exact .inl h2
      · exact .inr ⟨rfl, bytesLess_trans a b c h1 h2⟩
theorem strLt_irrefl (a : ByteArray) : strLt a a = false := bytesLess_irrefl _
theorem strLt_trans {a b c : ByteArray} (h : strLt a b = true) (k : strLt b c = true) : strLt a c = true := bytesLess_trans _ _ _ h k
theorem strLt_ne {a b : ByteArray} (h : strLt a b = true) : a ≠ b := fun e => by subst e; rw [strLt_irrefl] at h; cases h
end Go.Sod
