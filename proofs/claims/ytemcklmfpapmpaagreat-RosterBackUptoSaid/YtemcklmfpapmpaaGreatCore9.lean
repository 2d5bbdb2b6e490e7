/-
  A range over a function: what an iterator promises, what a loop over it owes. Conditions: none.
-/
import Derived.Test.YtemcklmfpapmpaaGreatCore8
import Derived.RangeFuncNested
namespace Go.Sod
set_option linter.unusedVariables false
set_option linter.unusedSimpArgs false

/-- **What a call of yield does**: one round of the loop. -/
def YS (P : Program) (l : Nat) (vs : List Value) (h : Hp) (ms : List Hp) (R : Bool → Hp → List Hp → Prop) : Prop :=
  ∀ w, Ok w h ms → ∃ fn tmps assign body, (Instr.yield l ⟨vs⟩).run P w = .ok (.round l fn tmps assign body) w ∧
    RoundIn (Fw none) 0 P l fn tmps assign body w fun e w' => ∃ b h' ms', e = .returned (.bool b) ∧ St w (domL ms) h w' h' ms' ∧ R b h' ms'

/-- **What an iterator promises**: it hands over xs, in turn, as long as it is asked to. -/
def IT (P : Program) (gf : FuncId) (cap : List Value) (h0 : Hp) (xs : List (List Value)) : Prop :=
  ∀ (l : Nat) (S : Nat → Hp → List Hp → Prop) (Sx : Hp → List Hp → Prop) (h : Hp) (ms : List Hp), h0.le h →
    (∀ i (hi : i < xs.length) h ms, h0.le h → S i h ms → YS P l xs[i] h ms fun b h' ms' => (b = true ∧ S (i + 1) h' ms') ∨ (b = false ∧ Sx h' ms')) → S 0 h ms →
    FS P gf (.func (.yield l) #[] #[] :: cap) h ms fun v h' ms' => v = .tuple #[] ∧ (S xs.length h' ms' ∨ Sx h' ms')

theorem IT.mono {P : Program} {gf : FuncId} {cap : List Value} {h0 h1 : Hp} {xs : List (List Value)} (t : IT P gf cap h0 xs) (le : h0.le h1) : IT P gf cap h1 xs :=
  fun l S Sx h ms hl hy hs => t l (fun i h ms => h1.le h ∧ S i h ms) (fun h ms => Sx h ms) h ms (Hp.le_trans le hl)
    (fun i hi h ms hh ⟨q1, q2⟩ w o => by
      obtain ⟨fn, tmps, assign, body, e1, e2⟩ := hy i hi h ms q1 q2 w o
      refine ⟨fn, tmps, assign, body, e1, e2.mono ?_⟩
      rintro e w' ⟨b, h', ms', a1, a2, a3⟩
      refine ⟨b, h', ms', a1, a2, ?_⟩
      rcases a3 with ⟨a3, a4⟩ | a3
      · exact .inl ⟨a3, Hp.le_trans q1 a2.le, a4⟩
      · exact .inr a3)
    ⟨hl, hs⟩ |>.mono fun v h' ms' ⟨e, q⟩ => ⟨e, q.imp (fun q => q.2) id⟩

section
variable {C : Cx} {ds : List Deferred} {env : Env} {h : Hp} {L L' : List Hp} {Q : Exit → Act → World → Prop} {ops : Array Oper} {rest : List (Oper × Kd)} {k : Kd}
variable {d : Nat} {op : Op} {ty : TypeId} {pos : String} {after : Array Edge} {v : Value}

/-- A call of yield. -/
theorem J.yield {fo : Operand} {args : Array Operand} {tys : Array TypeId} {l : Nat} {vs : List Value} {ms L1 : List Hp} {R : Bool → Hp → List Hp → Prop} (ef : evE env fo = some (.func (.yield l) #[] #[])) (ea : evL env args.toList = some vs)
    (hS : YS C.P l vs h ms R) (hk : okMut k = true) (hlt : Nat.blt d C.nt = true)
    (j : ∀ b h' ms', h.le h' → R b h' ms' → J C (WC C.r C.P ops Q rest) ds ((d, .bool b) :: env) h' (ms' ++ L1)) :
    J C (WC C.r C.P ops Q ((⟨some d, .call { callee := .value fo, args := args, argTypes := tys }, ty, pos, after, none⟩, k) :: rest)) ds env h (ms ++ L1) := by
  intro a w s
  refine stepK_mut hk rfl ?_
  unfold up
  have hv : args.map a.eval = ⟨vs⟩ := by rw [← s.2.2.1.evalL ea]; apply Array.toList_inj.1; simp
  obtain ⟨fn, tmps, assign, body, e1, e2⟩ := hS w s.2.2.2.ok.sub
  have hr : (execOp a.eval ⟨some d, .call { callee := .value fo, args := args, argTypes := tys }, ty, pos, after, none⟩).run C.P w = .ok (.round l fn tmps assign body) w := by
    simp only [execOp, resolve, hv, s.2.2.1.eval ef, Deferred.ofValue, pure_bind, invoke]
    have : (#[] ++ (⟨vs⟩ : Array Value)) = ⟨vs⟩ := by simp
    rw [this]; exact e1
  rw [Oper.semAt_eq _ _ _ (fun c => by simp), hr]
  refine ⟨fun hh => by simp [Fence.wide] at hh, RoundIn.mono (show RoundIn (Fw C.r) 0 _ _ _ _ _ _ _ _ from e2) ?_⟩
  rintro e w' ⟨b, h', ms', rfl, st, hR⟩
  exact j b h' ms' st.le hR _ _ (s.put hlt (s.2.2.2.call st))
end

/-- parameters set -/
def setPs : List Nat → List Value → Env → Env
  | p :: ps, v :: vs, e => setPs ps vs ((p, v) :: e)
  | _, _, e => e
theorem Knows.sets {nt : Nat} : ∀ (ps : List Nat) (vs : List Value) (tmps : Array Value) (env : Env) (ds : List Deferred), tmps.size = nt → (∀ p, p ∈ ps → p < nt) → Knows env ⟨tmps, ds⟩ →
    Knows (setPs ps vs env) ⟨(ps.zip vs).foldl (fun t (x : Nat × Value) => t.setIfInBounds x.1 x.2) tmps, ds⟩ ∧ ((ps.zip vs).foldl (fun t (x : Nat × Value) => t.setIfInBounds x.1 x.2) tmps).size = nt := by
  intro ps
  induction ps with
  | nil => intro vs tmps env ds hs _ k; cases vs <;> exact ⟨k, hs⟩
  | cons p ps ih =>
    intro vs tmps env ds hs hp k
    cases vs with
    | nil => exact ⟨k, hs⟩
    | cons v vs =>
      simp only [List.zip_cons_cons, List.foldl_cons]
      exact ih vs _ _ ds (by simp [hs]) (fun q hq => hp q (by simp [hq])) (k.put v (d := p) (by show p < tmps.size; rw [hs]; exact hp p (by simp)))

/-- A round's end. -/
def roundQ (w2 : World) (M2 : Nat → Prop) (h2 : Hp) (S : Hp → List Hp → Prop) (Sx : Code → Hp → List Hp → Prop) : Exit → Act → World → Prop
  | .normal, _, w => ∃ h3 L3, St w2 M2 h2 w h3 L3 ∧ S h3 L3
  | .ret, _, w => ∃ h3 L3, St w2 M2 h2 w h3 L3 ∧ Sx .ret h3 L3
  | .exit id, _, w => ∃ h3 L3, St w2 M2 h2 w h3 L3 ∧ Sx (.exit id) h3 L3
  | .goto t, _, w => ∃ h3 L3, St w2 M2 h2 w h3 L3 ∧ Sx (.goto t) h3 L3
  | _, _, _ => False
/-- The assignment to the loop's variables is done; the body comes. -/
def asgK (P : Program) (l nt : Nat) (w1 : World) (M1 : Nat → Prop) (h1 : Hp) (body : Code) (S : Hp → List Hp → Prop) (Sx : Code → Hp → List Hp → Prop) : Act → World → Prop := fun a w =>
  ∃ env2 h2 L2, Sat ⟨P, some l, nt, w1, M1, h1⟩ [] env2 h2 L2 a w ∧ ∀ w2, J ⟨P, some l, nt, w2, domL L2, h2⟩ (wpc ⟨P, some l, nt, w2, domL L2, h2⟩ body (roundQ w2 (domL L2) h2 S Sx)) [] env2 h2 L2

theorem J.asgEnd {P : Program} {l nt : Nat} {w1 : World} {M1 : Nat → Prop} {h1 : Hp} {body : Code} {S : Hp → List Hp → Prop} {Sx : Code → Hp → List Hp → Prop} {env : Env} {h : Hp} {L : List Hp}
    (j : ∀ w2, J ⟨P, some l, nt, w2, domL L, h⟩ (wpc ⟨P, some l, nt, w2, domL L, h⟩ body (roundQ w2 (domL L) h S Sx)) [] env h L) :
    J ⟨P, some l, nt, w1, M1, h1⟩ (asgK P l nt w1 M1 h1 body S Sx) [] env h L := fun a w s => ⟨env, h, L, s, j⟩
theorem J.roundN {C : Cx} {S : Hp → List Hp → Prop} {Sx : Code → Hp → List Hp → Prop} {env : Env} {h : Hp} {L : List Hp} {ds : List Deferred} (hS : S h L) : J C ((roundQ C.w0 C.M0 C.h0 S Sx) .normal) ds env h L :=
  fun a w s => ⟨h, L, s.2.2.2, hS⟩
theorem J.roundR {C : Cx} {S : Hp → List Hp → Prop} {Sx : Code → Hp → List Hp → Prop} {env : Env} {h : Hp} {L : List Hp} {ds : List Deferred} (hS : Sx .ret h L) : J C ((roundQ C.w0 C.M0 C.h0 S Sx) .ret) ds env h L :=
  fun a w s => ⟨h, L, s.2.2.2, hS⟩
theorem J.roundE {C : Cx} {S : Hp → List Hp → Prop} {Sx : Code → Hp → List Hp → Prop} {env : Env} {h : Hp} {L : List Hp} {ds : List Deferred} {id : Nat} (hS : Sx (.exit id) h L) : J C ((roundQ C.w0 C.M0 C.h0 S Sx) (.exit id)) ds env h L :=
  fun a w s => ⟨h, L, s.2.2.2, hS⟩

theorem putObj_st {w0 w : World} {M0 : Nat → Prop} {h0 h : Hp} {b : Nat} {o o' : Obj} {L : List Hp} (s : St w0 M0 h0 w h (one b o :: L)) : St w0 M0 h0 (w.putObj b o') h (one b o' :: L) := s.put

/-- **A loop over an iterator.** -/
theorem J.range {C : Cx} {ds : List Deferred} {env : Env} {h : Hp} {L : List Hp} {Q : Exit → Act → World → Prop} {g : Operand} {ps : Array Nat} {assign body : Code} {gf : FuncId} {cap : List Value} {xs : List (List Value)} [q : Fnc C.P gf]
    (hr : C.r = none) (eg : evE env g = some (.func (.func gf) ⟨[]⟩ ⟨cap⟩)) (hit : IT C.P gf cap h xs) (hps : ∀ p, p ∈ ps.toList → p < C.nt) (hlen : ∀ i (hi : i < xs.length), xs[i].length = ps.size)
    (S : Nat → Hp → List Hp → Prop) (Sx : Code → Hp → List Hp → Prop) (hS0 : S 0 h L)
    (hround : ∀ l i (hi : i < xs.length) h1 L1, h.le h1 → S i h1 L1 → ∀ w1,
      J ⟨C.P, some l, C.nt, w1, domL L1, h1⟩ (wpc ⟨C.P, some l, C.nt, w1, domL L1, h1⟩ assign (Exit.then (asgK C.P l C.nt w1 (domL L1) h1 body (S (i + 1)) Sx) botQ)) [] (setPs ps.toList xs[i] env) h1 L1)
    (hdone : ∀ D h1 L1, h.le h1 → S xs.length h1 L1 → J C (Q .normal) ({ target := .collected D, args := #[] } :: ds) env h1 (one D (.deferred (some [])) :: L1))
    (hstop : ∀ D c h1 L1, h.le h1 → Sx c h1 L1 → J C (wpc C c Q) ({ target := .collected D, args := #[] } :: ds) env h1 (one D (.deferred (some [])) :: L1)) :
    J C (wpc C (.rangeFunc g ps assign body) Q) ds env h L := by
  intro a w s
  show (Code.rangeFunc g ps assign body).wpIn (Fw C.r) 0 C.P Q a w
  rw [hr]
  refine wpIn_rangeFunc ?_
  intro fn _
  obtain ⟨rec, hrec⟩ : ∃ rec : LoopState → Option Code → Loop, rec = fun st pe => { state := st, pending := pe, fn, tmps := a.tmps, params := ps, assign, body, defers := w.heap.size } := ⟨_, rfl⟩
  have s1 := (s.2.2.2.alloc (.deferred (some []))).alloc (.loop (rec .ready none))
  have hcall : ∀ w', (callFunc gf (#[.func (.yield (w.heap.size + 1)) #[] #[]] ++ (⟨cap⟩ : Array Value))).run C.P w' = .ok (.enter gf ⟨.func (.yield (w.heap.size + 1)) #[] #[] :: cap⟩) w' := fun w' => by
    obtain ⟨fn, h1, h2, h3⟩ := q.eq
    have ha : (#[.func (.yield (w.heap.size + 1)) #[] #[]] ++ (⟨cap⟩ : Array Value)) = ⟨.func (.yield (w.heap.size + 1)) #[] #[] :: cap⟩ := by apply Array.toList_inj.1; simp
    rw [ha]
    unfold callFunc
    simp only [Sem.run_bind, run_program, Result.andThen_ok, h1, h2, h3, Bool.false_eq_true, if_false, Sem.run_pure]
  refine ⟨w.heap.size + 1, [{ target := .collected w.heap.size, args := #[] }], (w.alloc (.deferred (some []))).alloc (.loop (rec .ready none)), { target := .fn (.func gf) ⟨cap⟩, args := #[.func (.yield (w.heap.size + 1)) #[] #[]] }, (w.alloc (.deferred (some []))).alloc (.loop (rec .ready none)), gf,
    ⟨.func (.yield (w.heap.size + 1)) #[] #[] :: cap⟩, (w.alloc (.deferred (some []))).alloc (.loop (rec .ready none)), ?_, ?_, fun _ _ => trivial, ?_, fun hh => by simp [Fence.wide] at hh, ?_⟩
  · rw [hrec]; exact run_enterLoop_outer _ _ _ _ _
  · have hg := s.2.2.1.eval eg
    simp only [resolve, hg, Deferred.ofValue]
    simp [Act.eval]
  · simpa [invoke] using hcall _
  -- the iterator's contract
  have hsz : (w.alloc (.deferred (some []))).heap.size = w.heap.size + 1 := by simp
  rw [hsz] at s1
  have key := hit (w.heap.size + 1)
    (fun i h' ms => ∃ L', h.le h' ∧ ms = one (w.heap.size + 1) (.loop (rec .ready none)) :: one w.heap.size (.deferred (some [])) :: L' ∧ S i h' L')
    (fun h' ms => ∃ L' c, h.le h' ∧ ms = one (w.heap.size + 1) (.loop (rec .done (some c))) :: one w.heap.size (.deferred (some [])) :: L' ∧ Sx c h' L')
    h (one (w.heap.size + 1) (.loop (rec .ready none)) :: one w.heap.size (.deferred (some [])) :: L) (Hp.le_refl _) ?_ ⟨L, Hp.le_refl _, rfl, hS0⟩
  · have kc := callsIn_any (r := none) (key _ s1.ok)
    refine CallsIn.mono kc ?_
    rintro e w' ⟨v', h', ms', rfl, st, rfl, hend⟩
    have st' := St.call (L1 := []) (by rw [List.append_nil]; exact s1) st
    rw [List.append_nil] at st'
    rcases hend with ⟨L', hle, rfl, hS⟩ | ⟨L', c, hle, rfl, hS⟩
    · have hb : w'.heap[w.heap.size + 1]? = some (.loop (rec .ready none)) := st'.lin _ (List.mem_cons_self ..) _ _ (one_same _ _)
      have hend := run_endLoop (P := C.P) hb (by rw [hrec]; exact fun e => by cases e)
      have hpe : (rec .ready none).pending = none := by rw [hrec]
      refine ⟨none, _, hend.trans (congrArg (fun x => Result.ok x _) hpe), ?_⟩
      have st2 := (putObj_st (o' := .loop { rec .ready none with state := .exhausted }) st').sub (List.sublist_cons_self ..)
      exact hdone w.heap.size h' L' hle hS _ _ ⟨s.1, by simp [s.2.1], s.2.2.1, st2⟩
    · have hb : w'.heap[w.heap.size + 1]? = some (.loop (rec .done (some c))) := st'.lin _ (List.mem_cons_self ..) _ _ (one_same _ _)
      have hend := run_endLoop (P := C.P) hb (by rw [hrec]; exact fun e => by cases e)
      have hpe : (rec .done (some c)).pending = some c := by rw [hrec]
      refine ⟨some c, _, hend.trans (congrArg (fun x => Result.ok x _) hpe), ?_⟩
      have st2 := (putObj_st (o' := .loop { rec .done (some c) with state := .exhausted }) st').sub (List.sublist_cons_self ..)
      have := hstop w.heap.size c h' L' hle hS { tmps := a.tmps, defers := [{ target := Target.collected w.heap.size, args := #[] }] ++ a.defers } _ ⟨s.1, by simp [s.2.1], s.2.2.1, st2⟩
      unfold wpc at this
      rw [hr] at this
      exact this
  · -- one round
    rintro i hi h1 ms hle1 ⟨L1, hle, rfl, hS⟩ w1 o
    have hl1 : w1.heap[w.heap.size + 1]? = some (.loop (rec .ready none)) := o.lin _ (List.mem_cons_self ..) _ _ (one_same _ _)
    have hy := run_yield (P := C.P) (args := ⟨xs[i]⟩) hl1 (by rw [hrec]; simpa using hlen i hi)
    refine ⟨_, _, _, _, hy, ?_⟩
    have hzip : ((rec .ready none).params.zip (⟨xs[i]⟩ : Array Value)).foldl (fun tmps (x : Nat × Value) => tmps.setIfInBounds x.1 x.2) (rec .ready none).tmps = (ps.toList.zip xs[i]).foldl (fun t (x : Nat × Value) => t.setIfInBounds x.1 x.2) a.tmps := by
      rw [hrec]
      rw [← Array.foldl_toList]
      congr 1
      show (ps.zip ⟨xs[i]⟩).toList = _
      simp
    have ks := Knows.sets (nt := C.nt) ps.toList xs[i] a.tmps env [] s.1 hps (fun t v e => s.2.2.1 t v e)
    have okA : Ok w1 h1 L1 := ⟨o.hin, fun k hk => o.lin k (by simp [hk]), by
      have := o.dis
      exact this.sublist (List.Sublist.cons_cons _ (((List.sublist_cons_self _ L1)).trans (List.sublist_cons_self _ _)))⟩
    have ha := hround (w.heap.size + 1) i hi h1 L1 hle hS w1 ⟨(ps.toList.zip xs[i]).foldl (fun t (x : Nat × Value) => t.setIfInBounds x.1 x.2) a.tmps, []⟩ w1 ⟨ks.2, rfl, ks.1, okA.st⟩
    refine roundIn_of_wpIn trivial ?_
    have heq : (rec .ready none).assign = assign ∧ (rec .ready none).body = body := by rw [hrec]; exact ⟨rfl, rfl⟩
    rw [heq.1, heq.2]
    refine wpIn_mono (show (assign.wpIn ((Fw none).inRound (w.heap.size + 1)) 0 C.P _ _ w1) from by
      have hz : ({ tmps := ((rec .ready none).params.zip (⟨xs[i]⟩ : Array Value)).foldl (fun tmps (x : Nat × Value) => tmps.setIfInBounds x.1 x.2) (rec .ready none).tmps, defers := [] } : Act) = ⟨(ps.toList.zip xs[i]).foldl (fun t (x : Nat × Value) => t.setIfInBounds x.1 x.2) a.tmps, []⟩ := by rw [hzip]
      have := ha
      rw [← hz] at this
      exact this) ?_
    intro e a2 w2 hq
    cases e with
    | normal =>
      obtain ⟨env2, h2, L2, sat2, hbody⟩ := hq
      -- the state after the assignment
      have sA : St w1 (domL (one (w.heap.size + 1) (.loop (rec .ready none)) :: one w.heap.size (.deferred (some [])) :: L1)) h1 w2 h2 (one (w.heap.size + 1) (.loop (rec .ready none)) :: one w.heap.size (.deferred (some [])) :: L2) := by
        have p := o.st.perm (L' := L1 ++ [one (w.heap.size + 1) (.loop (rec .ready none)), one w.heap.size (.deferred (some []))]) (List.perm_append_comm (l₁ := [_, _]))
        exact (p.call sat2.2.2.2).perm (List.perm_append_comm (l₂ := [_, _]))
      have hl2 : w2.heap[w.heap.size + 1]? = some (.loop (rec .ready none)) := sA.lin _ (List.mem_cons_self ..) _ _ (one_same _ _)
      refine ⟨_, run_beginRound hl2 (by rw [hrec]), ?_⟩
      have sB := putObj_st (o' := .loop { rec .ready none with state := .busy }) sA
      have okB : Ok (w2.putObj (w.heap.size + 1) (.loop { rec .ready none with state := .busy })) h2 L2 := ⟨sB.hin, fun k hk => sB.lin k (by simp [hk]), sB.dis.sublist (List.Sublist.cons_cons _ (((List.sublist_cons_self _ L2)).trans (List.sublist_cons_self _ _)))⟩
      refine wpIn_mono (hbody _ a2 _ ⟨sat2.1, sat2.2.1, sat2.2.2.1, okB.st⟩) ?_
      intro e3 a3 w3 hq3
      have fin : ∀ (jump : Option Code) (h3 : Hp) (L3 : List Hp), St (w2.putObj (w.heap.size + 1) (.loop { rec .ready none with state := .busy })) (domL L2) h2 w3 h3 L3 →
          (Instr.endRound (w.heap.size + 1) jump).run C.P w3 = .ok (.bool jump.isNone) (w3.putObj (w.heap.size + 1) (.loop (rec (if jump.isNone then .ready else .done) jump))) ∧
          St w1 (domL (one (w.heap.size + 1) (.loop (rec .ready none)) :: one w.heap.size (.deferred (some [])) :: L1)) h1 (w3.putObj (w.heap.size + 1) (.loop (rec (if jump.isNone then .ready else .done) jump))) h3
            (one (w.heap.size + 1) (.loop (rec (if jump.isNone then .ready else .done) jump)) :: one w.heap.size (.deferred (some [])) :: L3) := by
        intro jump h3 L3 st3
        have p := sB.perm (L' := L2 ++ [one (w.heap.size + 1) (.loop { rec .ready none with state := .busy }), one w.heap.size (.deferred (some []))]) (List.perm_append_comm (l₁ := [_, _]))
        have p2 := (p.call st3).perm (List.perm_append_comm (l₂ := [_, _]))
        have hl3 : w3.heap[w.heap.size + 1]? = some (.loop { rec .ready none with state := .busy }) := p2.lin _ (List.mem_cons_self ..) _ _ (one_same _ _)
        have hend := run_endRound (P := C.P) jump hl3
        have hre : ({ { rec .ready none with state := .busy } with state := if jump.isNone then .ready else .done, pending := jump } : Loop) = rec (if jump.isNone then .ready else .done) jump := by rw [hrec]
        rw [hre] at hend
        have p3 := putObj_st (o' := .loop (rec (if jump.isNone then .ready else .done) jump)) p2
        exact ⟨hend, p3⟩
      cases e3 with
      | normal =>
        obtain ⟨h3, L3, st3, hS3⟩ := hq3
        obtain ⟨hend, p3⟩ := fin none h3 L3 st3
        exact ⟨_, _, hend, true, h3, _, rfl, p3, .inl ⟨rfl, L3, Hp.le_trans hle p3.le, rfl, hS3⟩⟩
      | ret =>
        obtain ⟨h3, L3, st3, hS3⟩ := hq3
        obtain ⟨hend, p3⟩ := fin (some .ret) h3 L3 st3
        exact ⟨_, _, hend, false, h3, _, rfl, p3, .inr ⟨rfl, L3, .ret, Hp.le_trans hle p3.le, rfl, hS3⟩⟩
      | exit id =>
        obtain ⟨h3, L3, st3, hS3⟩ := hq3
        obtain ⟨hend, p3⟩ := fin (some (.exit id)) h3 L3 st3
        exact ⟨_, _, hend, false, h3, _, rfl, p3, .inr ⟨rfl, L3, .exit id, Hp.le_trans hle p3.le, rfl, hS3⟩⟩
      | goto t =>
        obtain ⟨h3, L3, st3, hS3⟩ := hq3
        obtain ⟨hend, p3⟩ := fin (some (.goto t)) h3 L3 st3
        exact ⟨_, _, hend, false, h3, _, rfl, p3, .inr ⟨rfl, L3, .goto t, Hp.le_trans hle p3.le, rfl, hS3⟩⟩
      | panic ch => exact hq3.elim
      | outgrown => exact hq3.elim
    | exit id => exact hq.elim
    | goto t => exact hq.elim
    | ret => exact hq.elim
    | panic ch => exact hq.elim
    | outgrown => exact hq.elim
end Go.Sod
