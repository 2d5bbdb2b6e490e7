/-
  Calls and results. Conditions: none.
-/
import Derived.Test.YtemcklmfpapmpaaGreatCore7
namespace Go.Sod
set_option linter.unusedVariables false
set_option linter.unusedSimpArgs false

class Fnc (P : Program) (f : FuncId) : Prop where
  eq : ∃ fn, P.funcs[f]? = some fn ∧ (fn.name == "runtime.NumGoroutine") = false ∧ fn.body.isNone = false

/-- a contract of a function that answers one value, and leaves nothing behind -/
def FV (P : Program) (f : FuncId) (vs : List Value) (h : Hp) (V : Value) : Prop := FS P f vs h [] fun v h' ms' => v = V ∧ h' = h ∧ ms' = []
/-- of one that writes nothing, and whose answer reads so -/
def FH (P : Program) (f : FuncId) (vs : List Value) (h : Hp) (Φ : Value → Hp → Prop) : Prop := FS P f vs h [] fun v h' ms' => Φ v h' ∧ ms' = []

section
variable {C : Cx} {ds : List Deferred} {env : Env} {h : Hp} {L L' : List Hp} {Q : Exit → Act → World → Prop} {ops : Array Oper} {rest : List (Oper × Kd)} {k : Kd}
variable {d : Nat} {op : Op} {ty : TypeId} {pos : String} {after : Array Edge} {v : Value}

theorem run_callv {P : Program} {fid : FuncId} [q : Fnc P fid] {a : Act} {env : Env} (k : Knows env a) {fo : Operand} {args : Array Operand} {tys : Array TypeId} {dst : Option Nat} {g : Option (Nat × Bool)} {fs vs cap : List Value} (ef : evE env fo = some (.func (.func fid) ⟨fs⟩ ⟨cap⟩)) (ea : evL env args.toList = some vs) (w : World) :
    (execOp a.eval ⟨dst, .call { callee := .value fo, args := args, argTypes := tys }, ty, pos, after, g⟩).run P w = .ok (.enter fid ⟨fs ++ vs ++ cap⟩) w := by
  obtain ⟨fn, h1, h2, h3⟩ := q.eq
  have hv : args.map a.eval = ⟨vs⟩ := by rw [← k.evalL ea]; apply Array.toList_inj.1; simp
  have hc : (callFunc fid ⟨fs ++ vs ++ cap⟩).run P w = .ok (.enter fid ⟨fs ++ vs ++ cap⟩) w := by
    unfold callFunc
    simp only [Sem.run_bind, run_program, Result.andThen_ok, h1, h2, h3, Bool.false_eq_true, if_false, Sem.run_pure]
  have ha : ((⟨fs⟩ : Array Value) ++ ⟨vs⟩ ++ ⟨cap⟩) = ⟨fs ++ vs ++ cap⟩ := by apply Array.toList_inj.1; simp
  simp only [execOp, resolve, hv, k.eval ef, Deferred.ofValue, pure_bind, invoke]
  rw [ha]
  exact hc

theorem callsIn_any {P : Program} {r : Option Nat} {f : FuncId} {args : Array Value} {w : World} {R : Ending → World → Prop} (h : Calls P f args w R) : CallsIn (Fw r) 0 P f args w R := (callsIn_wide (n := 0)).2 h

theorem Act.put_none (a : Act) (v : Value) : a.put none v = a := rfl

/-- **A call**, by a contract. -/
theorem J.call {fo : Operand} {args : Array Operand} {tys : Array TypeId} {fid : FuncId} {fs vs cap : List Value} {ms L1 : List Hp} {R : Value → Hp → List Hp → Prop} [q : Fnc C.P fid] (ef : evE env fo = some (.func (.func fid) ⟨fs⟩ ⟨cap⟩)) (ea : evL env args.toList = some vs)
    (hS : FS C.P fid (fs ++ vs ++ cap) h ms R) (hk : okMut k = true) (hlt : Nat.blt d C.nt = true)
    (j : ∀ v' h' ms', h.le h' → R v' h' ms' → J C (WC C.r C.P ops Q rest) ds ((d, v') :: env) h' (ms' ++ L1)) :
    J C (WC C.r C.P ops Q ((⟨some d, .call { callee := .value fo, args := args, argTypes := tys }, ty, pos, after, none⟩, k) :: rest)) ds env h (ms ++ L1) := by
  intro a w s
  refine stepK_mut hk rfl ?_
  unfold up
  rw [Oper.semAt_eq _ _ _ (fun c => by simp), run_callv s.2.2.1 ef ea]
  refine ⟨fun hh => by simp [Fence.wide] at hh, callsIn_any (Calls.mono (hS w s.2.2.2.ok.sub) ?_)⟩
  rintro e w' ⟨v', h', ms', rfl, st, hR⟩
  exact j v' h' ms' st.le hR _ _ (s.put hlt (s.2.2.2.call st))
/-- A call that writes nothing: it may stand in whatever order. -/
theorem J.call0 {fo : Operand} {args : Array Operand} {tys : Array TypeId} {fid : FuncId} {fs vs cap : List Value} {R : Value → Hp → List Hp → Prop} [q : Fnc C.P fid] (ef : evE env fo = some (.func (.func fid) ⟨fs⟩ ⟨cap⟩)) (ea : evL env args.toList = some vs)
    (hS : FS C.P fid (fs ++ vs ++ cap) h [] R) (hk : okGrow k = true) (hlt : Nat.blt d C.nt = true)
    (j : ∀ v' h' ms', h.le h' → R v' h' ms' → J C (WC C.r C.P ops Q rest) ds ((d, v') :: env) h' (ms' ++ L)) :
    J C (WC C.r C.P ops Q ((⟨some d, .call { callee := .value fo, args := args, argTypes := tys }, ty, pos, after, none⟩, k) :: rest)) ds env h L := by
  intro a w s
  refine stepK_growU hk rfl ?_
  unfold up
  rw [Oper.semAt_eq _ _ _ (fun c => by simp), run_callv s.2.2.1 ef ea]
  refine ⟨fun hh => by simp [Fence.wide] at hh, callsIn_any (Calls.mono (hS w ⟨s.2.2.2.hin, fun k hk => (by cases hk), List.pairwise_singleton ..⟩) ?_)⟩
  rintro e w' ⟨v', h', ms', rfl, st, hR⟩
  exact ⟨St.growW st, j v' h' ms' st.le hR _ _ (s.put hlt (s.2.2.2.call0 st))⟩
theorem J.callV {fo : Operand} {args : Array Operand} {tys : Array TypeId} {fid : FuncId} {fs vs cap : List Value} {V : Value} [q : Fnc C.P fid] (ef : evE env fo = some (.func (.func fid) ⟨fs⟩ ⟨cap⟩)) (ea : evL env args.toList = some vs)
    (hS : FV C.P fid (fs ++ vs ++ cap) h V) (hk : okGrow k = true) (hlt : Nat.blt d C.nt = true)
    (j : J C (WC C.r C.P ops Q rest) ds ((d, V) :: env) h L) :
    J C (WC C.r C.P ops Q ((⟨some d, .call { callee := .value fo, args := args, argTypes := tys }, ty, pos, after, none⟩, k) :: rest)) ds env h L :=
  J.call0 ef ea hS hk hlt (by rintro v' h' ms' _ ⟨rfl, rfl, rfl⟩; exact j)
theorem J.callH {fo : Operand} {args : Array Operand} {tys : Array TypeId} {fid : FuncId} {fs vs cap : List Value} {Φ : Value → Hp → Prop} [q : Fnc C.P fid] (ef : evE env fo = some (.func (.func fid) ⟨fs⟩ ⟨cap⟩)) (ea : evL env args.toList = some vs)
    (hS : FH C.P fid (fs ++ vs ++ cap) h Φ) (hk : okGrow k = true) (hlt : Nat.blt d C.nt = true)
    (j : ∀ v' h', h.le h' → Φ v' h' → J C (WC C.r C.P ops Q rest) ds ((d, v') :: env) h' L) :
    J C (WC C.r C.P ops Q ((⟨some d, .call { callee := .value fo, args := args, argTypes := tys }, ty, pos, after, none⟩, k) :: rest)) ds env h L :=
  J.call0 ef ea hS hk hlt (by rintro v' h' ms' hl ⟨hp, rfl⟩; exact j v' h' hl hp)
end

section
variable {P : Program} {fn : Func} {w0 : World} {M0 : Nat → Prop} {h0 : Hp} {nt : Nat} {R : Value → Hp → List Hp → Prop} {env : Env} {h : Hp} {L ms' : List Hp} {vs : List Value} {ds : List Deferred} {V : Value} {Φ : Value → Hp → Prop}
theorem J.endN (j : J ⟨P, none, nt, w0, M0, h0⟩ ((endP P fn w0 M0 h0 R) .ret) ds env h L) : J ⟨P, none, nt, w0, M0, h0⟩ ((endP P fn w0 M0 h0 R) .normal) ds env h L := j
theorem J.retV (hv : resV env fn.results.toList = some vs) (he : resOne vs = V) : J ⟨P, none, nt, w0, M0, h0⟩ ((endP P fn w0 M0 h0 fun v h' ms' => v = V ∧ h' = h0 ∧ ms' = []) .ret) [] env h L :=
  J.st (fun w s => s.shrink) (J.retTmp hv (List.nil_sublist _) ⟨he, rfl, rfl⟩)
theorem J.retH (hv : resV env fn.results.toList = some vs) (hΦ : Φ (resOne vs) h) : J ⟨P, none, nt, w0, M0, h0⟩ ((endP P fn w0 M0 h0 fun v h' ms' => Φ v h' ∧ ms' = []) .ret) [] env h L :=
  J.retTmp hv (List.nil_sublist _) ⟨hΦ, rfl⟩

/-- One result, in a box: a struct. -/
theorem J.retBoxA {a t n b : Nat} {cs : List Value} {T : TypeId} {fr : Nat × Nat} [Aggr P t n] [q : At h L b (.cells ⟨cs⟩ T fr)] (hr : fn.results = #[.cell a t]) (ea : gt env a = some (.pointer (some ⟨b, 0, none⟩))) (hl : cs.length = n) (hs : ms'.Sublist L) (hR : R (.agg ⟨cs⟩) h ms') :
    J ⟨P, none, nt, w0, M0, h0⟩ ((endP P fn w0 M0 h0 R) .ret) [] env h L := by
  rintro ac w ⟨_, hd, k, s⟩
  show LeavesInM (Fw none) 0 P fn ac.tmps _ ac.defers .returning w
  rw [hd]
  refine ⟨.agg ⟨cs⟩, ?_, _, h, ms', rfl, s.sub hs, hR⟩
  have hb := q.blk s
  have hx := k a _ ea
  unfold results
  rw [hr]
  simp only [Array.mapM_eq_mapM_toList, List.mapM_cons, List.mapM_nil, hx, asAddr, pure_bind, Sem.run_bind, Sem.run_map]
  rw [run_loadAgg (n := n) hb hl (fun j _ => by rw [Nat.zero_add])]
  simp
/-- One result, in a box: one cell. -/
theorem J.retBoxS {a t b : Nat} {cs : List Value} {T : TypeId} {fr : Nat × Nat} {u : Value} [Scal P t] [q : At h L b (.cells ⟨cs⟩ T fr)] (hr : fn.results = #[.cell a t]) (ea : gt env a = some (.pointer (some ⟨b, 0, none⟩))) (hl : cs[0]? = some u) (hs : ms'.Sublist L) (hR : R u h ms') :
    J ⟨P, none, nt, w0, M0, h0⟩ ((endP P fn w0 M0 h0 R) .ret) [] env h L := by
  rintro ac w ⟨_, hd, k, s⟩
  show LeavesInM (Fw none) 0 P fn ac.tmps _ ac.defers .returning w
  rw [hd]
  refine ⟨u, ?_, _, h, ms', rfl, s.sub hs, hR⟩
  have hb := q.blk s
  have hx := k a _ ea
  unfold results
  rw [hr]
  simp only [Array.mapM_eq_mapM_toList, List.mapM_cons, List.mapM_nil, hx, asAddr, pure_bind, Sem.run_bind, Sem.run_map]
  rw [run_loadScal (cell_of hb hl)]
  simp
/-- The mark of a range over a function is come to. -/
theorem J.unmark {D : Nat} {L' : List Hp} [q : BoxSet L D (.deferred (some [])) (.deferred none) L'] (j : J ⟨P, none, nt, w0, M0, h0⟩ ((endP P fn w0 M0 h0 R) .ret) ds env h L') :
    J ⟨P, none, nt, w0, M0, h0⟩ ((endP P fn w0 M0 h0 R) .ret) ({ target := .collected D, args := #[] } :: ds) env h L := by
  rintro a w ⟨h1, hd, k, s⟩
  obtain ⟨hb, s'⟩ := q.st s
  show LeavesInM (Fw none) 0 P fn a.tmps _ a.defers .returning w
  rw [hd]
  refine ⟨by simp, .inl ⟨D, _, rfl, run_takeDeferred hb, ?_⟩⟩
  exact j { tmps := a.tmps, defers := ds } _ ⟨h1, rfl, k, s'⟩
end
end Go.Sod
