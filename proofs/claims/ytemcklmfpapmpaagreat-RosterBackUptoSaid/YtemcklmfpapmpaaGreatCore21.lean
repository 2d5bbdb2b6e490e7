/-
  Calls that read objects and make one; what a slice holds, by value. Conditions: none.
-/
import Derived.Test.YtemcklmfpapmpaaGreatCore20
namespace Go.Sod
set_option linter.unusedVariables false
set_option linter.unusedSimpArgs false
section
variable {C : Cx} {ds : List Deferred} {env : Env} {h : Hp} {L L' : List Hp} {Q : Exit → Act → World → Prop} {ops : Array Oper} {rest : List (Oper × Kd)} {k : Kd} {K : Act → World → Prop}
variable {d : Nat} {op : Op} {ty : TypeId} {pos : String} {after : Array Edge} {v : Value}
theorem Ok.growN {w w' : World} {h' m : Hp} (o : Ok w h L) (st : St w (domL L) h w' h' (m :: L)) : GrowW w w' := by
  refine ⟨st.grow.size, fun b hb => ?_⟩
  by_cases e : domL L b
  · obtain ⟨q, hq, hh⟩ := e
    cases eq : q b with
    | none => exact absurd eq hh
    | some x => rw [st.lin q (List.mem_cons_of_mem _ hq) b x eq, o.lin q hq b x eq]
  · exact st.grow.block b hb e
/-- A call that reads objects, and makes one. -/
theorem J.callN {fo : Operand} {args : Array Operand} {tys : Array TypeId} {fid : FuncId} {fs vs cap : List Value} {Φ : Value → Hp → Hp → Prop} [q : Fnc C.P fid] (ef : evE env fo = some (.func (.func fid) ⟨fs⟩ ⟨cap⟩)) (ea : evL env args.toList = some vs)
    (hS : FS C.P fid (fs ++ vs ++ cap) h L fun v h' ms' => ∃ m', ms' = m' :: L ∧ Φ v h' m') (hk : okGrow k = true) (hlt : Nat.blt d C.nt = true)
    (j : ∀ u h' m', h.le h' → Φ u h' m' → J C (WC C.r C.P ops Q rest) ds ((d, u) :: env) h' (m' :: L)) :
    J C (WC C.r C.P ops Q ((⟨some d, .call { callee := .value fo, args := args, argTypes := tys }, ty, pos, after, none⟩, k) :: rest)) ds env h L := by
  intro a w s
  refine stepK_growU hk rfl ?_
  unfold up
  rw [Oper.semAt_eq _ _ _ (fun c => by simp), run_callv s.2.2.1 ef ea]
  refine ⟨fun hh => by simp [Fence.wide] at hh, callsIn_any (Calls.mono (hS w s.2.2.2.ok) ?_)⟩
  rintro e w' ⟨v', h', ms', rfl, st, m', rfl, hΦ⟩
  refine ⟨s.2.2.2.ok.growN st, j v' h' m' st.le hΦ _ _ (s.put hlt ?_)⟩
  have := St.call (L1 := []) (ms := L) (by rw [List.append_nil]; exact s.2.2.2) st
  rw [List.append_nil] at this
  exact this
end
theorem SlR.at {α : Type} {h : Hp} {sz : Nat} {R : Rp α} {v : Value} {xs : List α} (s : SlR h sz R v xs) {i : Nat} (hi : i < xs.length) : ∃ vs : List Value, vs.length = sz ∧ vs.all oneV = true ∧ R h xs[i] vs ∧ True := by
  obtain ⟨A, c, _, _, _, h4⟩ := s
  obtain ⟨vs, a, b, e, _⟩ := h4 i hi
  exact ⟨vs, a, b, e, trivial⟩
/-- what lies in a slice, with its cells -/
theorem SlR.vals {α : Type} {h : Hp} {sz : Nat} {R : Rp α} {v : Value} {xs : List α} (s : SlR h sz R v xs) :
    ∃ zs : List (α × List Value), zs.map (·.1) = xs ∧ SlR h sz (fun h z vs => vs = z.2 ∧ vs.length = sz ∧ vs.all oneV = true ∧ R h z.1 vs) v zs := by
  obtain ⟨A, c, rfl, h2, h3, h4⟩ := s
  have key : ∀ m, m ≤ xs.length → ∃ zs : List (α × List Value), zs.length = m ∧ ∀ i (hi : i < zs.length) (hx : i < xs.length), zs[i].1 = xs[i] ∧ zs[i].2.length = sz ∧ zs[i].2.all oneV = true ∧ R h xs[i] zs[i].2 ∧ ElAt h A (i * sz) zs[i].2 := by
    intro m
    induction m with
    | zero => intro _; exact ⟨[], rfl, fun i hi => by simp at hi⟩
    | succ m ih =>
      intro hm
      obtain ⟨zs, hl, hz⟩ := ih (by omega)
      obtain ⟨vs, a1, a2, a3, a4⟩ := h4 m (by omega)
      refine ⟨zs ++ [(xs[m], vs)], by simp [hl], fun i hi hx => ?_⟩
      by_cases e : i < zs.length
      · rw [List.getElem_append_left e]; exact hz i e hx
      · have : i = m := by simp at hi; omega
        subst this
        rw [List.getElem_append_right (by omega)]
        simp only [hl, Nat.sub_self, List.getElem_cons_zero]
        exact ⟨by trivial, a1, a2, a3, a4⟩
  obtain ⟨zs, hl, hz⟩ := key xs.length (Nat.le_refl _)
  refine ⟨zs, ?_, A, c, by rw [hl], by rw [hl]; exact h2, by rw [hl]; exact h3, fun i hi => ?_⟩
  · apply List.ext_getElem
    · simp [hl]
    · intro i h1 h2'
      rw [List.getElem_map]
      exact (hz i (by simpa using h1) h2').1
  · obtain ⟨b1, b2, b3, b4, b5⟩ := hz i hi (by omega)
    exact ⟨zs[i].2, b2, b3, ⟨rfl, b2, b3, by rw [b1]; exact b4⟩, b5⟩
end Go.Sod
