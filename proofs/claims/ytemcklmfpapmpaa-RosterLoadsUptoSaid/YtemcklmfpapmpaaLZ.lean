/-
  Anything is loaded as it is, or is refused, just as the document says: RosterLoads. Conditions: what is read is of bulk at most 1048576.
-/
import Derived.Test.YtemcklmfpapmpaaL6
import Derived.Test.YtemcklmfpapmpaaRows
import Derived.WalkKit
import Derived.ProofKit
import Derived.OpenShut
import Derived.JoinedCond
namespace Go.Proofs.Ytemcklmfpapmpaa.rosterLoads
open Go.ChangeShapes Go.WideShapes Go.ChangeAt Go.RowKit Go.Sod
set_option linter.unusedVariables false
set_option linter.unusedSimpArgs false
theorem own : ownKnob Try.prog.godebug = none := by kernel_rfl
theorem laidOut : laidOutB Try.prog = true := by kernel_rfl

theorem one_le {H : Type} (d : DataW H) : 1 ≤ Rows.uptoBulk d := by
  cases d with
  | lit l => cases l <;> simp [Rows.uptoBulk]
  | nil => simp [Rows.uptoBulk]
  | ptr d => simp [Rows.uptoBulk]
  | slice elems spare => simp [Rows.uptoBulk]
  | agg parts => simp [Rows.uptoBulk]
  | iface t d => simp [Rows.uptoBulk]
  | map entries => simp [Rows.uptoBulk]
  | held h => simp [Rows.uptoBulk]
theorem part_le {H : Type} {d : DataW H} {l : List (DataW H)} (h : d ∈ l) : Rows.uptoBulk d ≤ Rows.uptoBulkAll l := by
  induction l with
  | nil => cases h
  | cons x r ih =>
    simp only [Rows.uptoBulkAll]
    cases List.mem_cons.1 h with
    | inl e => subst e; omega
    | inr e => have := ih e; omega
theorem length_le {H : Type} (l : List (DataW H)) : l.length ≤ Rows.uptoBulkAll l := by
  induction l with
  | nil => simp [Rows.uptoBulkAll]
  | cons x r ih => have := one_le x; simp only [Rows.uptoBulkAll, List.length_cons]; omega
theorem blk (H : Type) : Go.Sod.Blk H Rows.uptoBulk where
  len := fun es sp => by have := length_le es; simp only [Rows.uptoBulk]; omega
  mem := fun es sp e he => by have := part_le he; simp only [Rows.uptoBulk]; omega
  agg := fun ps e he => by have := part_le he; simp only [Rows.uptoBulk]; omega
  str := fun bytes => by simp only [Rows.uptoBulk]; omega
theorem bound {H : Type} {l : List (DataW H)} (hk : Rows.uptoSmall H l = true) : ∀ d, d ∈ l → Rows.uptoBulk d ≤ Go.Sod.maxL := fun d hd => by
  have h1 : Rows.uptoBulkAll l ≤ 1048576 := of_decide_eq_true hk
  have h2 := part_le hd
  unfold Go.Sod.maxL
  omega
theorem params_ok : ∀ t, t ∈ Try.f3.params.toList → Try.prog.readableRec t = true ∧ t < Try.prog.types.size := by
  rw [Try.params3]
  intro t ht
  simp only [List.mem_cons, List.not_mem_nil, or_false] at ht
  rcases ht with rfl | rfl
  all_goals exact ⟨by kernel_rfl, of_decide_eq_true (by kernel_rfl)⟩
set_option maxRecDepth 100000 in
theorem contract (H : Type) (enc : TypeId × Value → H) (W : World) (base : Nat) (args : Array Value) (ds gs : List (DataW H)) (before : List MemPlace)
    (hk : Rows.uptoSmall H (ds ++ gs) = true)
    (hval : ∀ (j : Nat) t v, Try.f3.params[j]? = some t → args[j]? = some v → Value.okWide Try.prog W .any base t v)
    (hW : DataW.Whole enc Try.prog Try.f3.params.toList Rows.rosterLoadsSpec.vars false W args.toList ds gs before) :
    Calls Try.prog 3 args W fun e W' => ∃ v, e = .returned v ∧ Rows.rosterLoadsSpec.post enc Try.prog Try.f3 false true false false W args v W' := by
  have hW' := hW
  obtain ⟨p, q, hA0, hV, rfl, hfz, hnd⟩ := hW
  have hA : DataW.TrodAll enc Try.prog W 0 (fun _ => true) true Try.f3.params.toList args.toList ds p := hA0
  rw [Try.params3] at hA hval
  obtain ⟨v0, vs0, d0, ds0, p0, q0, hargs, rfl, rfl, h0, r0⟩ := trodAll_cons hA
  obtain ⟨v1, vs1, d1, ds1, p1, q1, e1, rfl, rfl, h1, r1⟩ := trodAll_cons r0
  subst e1
  obtain ⟨e9, rfl, rfl⟩ := trodAll_nil r1
  subst e9
  obtain rfl : args = #[v0, v1] := by cases args; simp_all
  obtain ⟨rfl, rfl⟩ := trodVars_none hV
  have hb := bound hk
  obtain ⟨fu0, h0⟩ := h0
  obtain ⟨a0, hr0, hl0, ho0⟩ := Rd.int (bulk := Rows.uptoBulk) (k := .i64) fu0 _ _ h0 (hb d0 (by simp))
  rw [cells_in Try.underlying3 (hval 0 3 v0 rfl rfl)] at hr0
  obtain rfl : v0 = .int .i64 a0 := by simpa [RI] using hr0
  obtain ⟨fu1, h1⟩ := h1
  obtain ⟨a1, hr1, hl1, ho1⟩ := rdTold (blk H) fu1 _ _ h1 (hb d1 (by simp))
  obtain ⟨c1, rfl⟩ := cells_ag Try.underlying28 (hval 1 28 v1 rfl rfl)
  simp only [Value.cells] at hr1
  obtain ⟨x0, x1, x2, rfl, hs0, hs1, hs2, g0, g1, g2⟩ := hr1
  have hF := rosterLoads_walk (h := hp W) (most := a0) hs0 hs1.svcZ.1 hs2.chkZ.1 hs1.svcZ.2 hs2.chkZ.2 g0 g1 g2
  refine (hF W (hp_ok W)).mono fun e W' ⟨v, h', ms', he, hst, hv, _⟩ => ?_
  subst he
  subst hv
  exact ⟨_, rfl, post_true laidOut params_ok hW' rfl (fun _ => rfl) (by kernel_rfl) Try.underlying4 ⟨hst.grow.os, hst.grow.tape, hst.grow.output, hst.grow.size, fun b hb _ => hst.grow.block b hb (fun ⟨k, hk, _⟩ => by cases hk)⟩⟩
set_option maxRecDepth 100000 in
theorem lifted (os : Os) (started : os.Started) (H : Type) (enc : TypeId × Value → H) (F : Stop.Interp) :
    ReturnsInHanded {} Try.checked os 3 .any ((Rows.OpenSpec.upto Rows.rosterLoadsSpec).pre6 enc Try.prog Try.f3 Rows.rosterLoadsUptoRow.domain false) (((Rows.OpenSpec.upto Rows.rosterLoadsSpec).at F).post enc Try.prog Try.f3 false true false false) := by
  refine returnsInHanded_of_cond (C := Try.checked) (s := Rows.OpenSpec.upto Rows.rosterLoadsSpec) (k := Rows.uptoSmall) rfl own started (by kernel_rfl) Try.func3
    (OpenSpec.witness (enc := enc) (C := Try.checked) (s := Rows.OpenSpec.upto Rows.rosterLoadsSpec) (k := Rows.uptoSmall) rfl false ⟨#[], #[(.int .i64 0), (.agg #[(.slice none 0 0), (.slice none 0 0), (.slice none 0 0), (.int .u64 0), (.int .u64 0), (.int .u64 0)])], []⟩ 64 (by kernel_rfl) (by kernel_rfl) (by kernel_rfl)
      (x := ([.lit (.int .i64 0), .agg [.nil, .nil, .nil, .agg [.lit (.int .u64 0), .lit (.int .u64 0), .lit (.int .u64 0)]]], [], [])) (by kernel_rfl) rfl (by kernel_rfl)) ?_
  intro W base args ds gs before hval hW _ hk _
  exact contract H enc W base args ds gs before hk hval hW
theorem over : Rows.rosterLoadsUptoRow.holds Try.pinned (Rows.OpenSpec.upto Rows.rosterLoadsSpec) :=
  OpenClaim.holds_of_cond 3 Try.f3 rfl rfl rfl rfl rfl rfl rfl ⟨rfl, rfl, rfl, rfl, rfl⟩ rfl rfl rfl rfl rfl (by kernel_rfl) Try.func3 (by kernel_rfl)
    (of_decide_eq_true (by kernel_rfl)) (by unfold Func.isWrapper; first | (rw [if_pos (by decide +kernel)]; kernel_rfl) | (rw [if_neg (by decide +kernel)]; exact ⟨rfl, rfl⟩))
    (fun os started H enc _ F => lifted os started H enc F)
theorem proved : Rows.RosterLoadsUptoSaid := over
end Go.Proofs.Ytemcklmfpapmpaa.rosterLoads
