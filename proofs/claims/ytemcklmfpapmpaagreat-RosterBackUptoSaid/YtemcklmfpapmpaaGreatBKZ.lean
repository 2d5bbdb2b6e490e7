/-
  What is told of a roster, loaded, is the same: RosterBack. Conditions: what is read is of bulk at most 1048576.
-/
import Derived.Test.YtemcklmfpapmpaaGreatX11
import Derived.Test.YtemcklmfpapmpaaGreatX8
import Derived.Test.YtemcklmfpapmpaaGreatRows
import Derived.WalkKit
import Derived.ProofKit
import Derived.OpenShut
import Derived.JoinedCond
namespace Go.Proofs.YtemcklmfpapmpaaGreat.rosterBack
open Go.ChangeShapes Go.WideShapes Go.ChangeAt Go.RowKit Go.Sod
set_option linter.unusedVariables false
set_option linter.unusedSimpArgs false
theorem own : ownKnob Tryz.prog.godebug = none := by kernel_rfl
theorem laidOut : laidOutB Tryz.prog = true := by kernel_rfl

theorem one_le {H : Type} (d : DataW H) : 1 ≤ Rows.uptoBulk d := by
  cases d with
  | lit l => cases l <;> simp [Rows.uptoBulk]
  | nil => simp [Rows.uptoBulk]
  | ptr d => simp [Rows.uptoBulk]
  | slice elems spare => simp [Rows.uptoBulk]
  | agg parts => simp [Rows.uptoBulk]
  | iface t d => simp [Rows.uptoBulk]
  | map entries => simp [Rows.uptoBulk]
  | held h => simp [Rows.uptoBulk]
theorem part_le {H : Type} {d : DataW H} {l : List (DataW H)} (h : d ∈ l) : Rows.uptoBulk d ≤ Rows.uptoBulkAll l := by
  induction l with
  | nil => cases h
  | cons x r ih =>
    simp only [Rows.uptoBulkAll]
    cases List.mem_cons.1 h with
    | inl e => subst e; omega
    | inr e => have := ih e; omega
theorem length_le {H : Type} (l : List (DataW H)) : l.length ≤ Rows.uptoBulkAll l := by
  induction l with
  | nil => simp [Rows.uptoBulkAll]
  | cons x r ih => have := one_le x; simp only [Rows.uptoBulkAll, List.length_cons]; omega
theorem blk (H : Type) : Go.Sod.Blk H Rows.uptoBulk where
  len := fun es sp => by have := length_le es; simp only [Rows.uptoBulk]; omega
  mem := fun es sp e he => by have := part_le he; simp only [Rows.uptoBulk]; omega
  agg := fun ps e he => by have := part_le he; simp only [Rows.uptoBulk]; omega
  str := fun bytes => by simp only [Rows.uptoBulk]; omega
theorem bound {H : Type} {l : List (DataW H)} (hk : Rows.uptoSmall H l = true) : ∀ d, d ∈ l → Rows.uptoBulk d ≤ Go.Sod.maxL := fun d hd => by
  have h1 : Rows.uptoBulkAll l ≤ 1048576 := of_decide_eq_true hk
  have h2 := part_le hd
  unfold Go.Sod.maxL
  omega
theorem params_ok : ∀ t, t ∈ Tryz.f6.params.toList → Tryz.prog.readableRec t = true ∧ t < Tryz.prog.types.size := by
  rw [Tryz.params6]
  intro t ht
  simp only [List.mem_cons, List.not_mem_nil, or_false] at ht
  subst ht
  exact ⟨by kernel_rfl, of_decide_eq_true (by kernel_rfl)⟩
set_option maxRecDepth 100000 in
theorem contract (H : Type) (enc : TypeId × Value → H) (W : World) (base : Nat) (args : Array Value) (ds gs : List (DataW H)) (before : List MemPlace)
    (hk : Rows.uptoSmall H (ds ++ gs) = true)
    (hval : ∀ (j : Nat) t v, Tryz.f6.params[j]? = some t → args[j]? = some v → Value.okWide Tryz.prog W .any base t v)
    (hW : DataW.Whole enc Tryz.prog Tryz.f6.params.toList Rows.rosterBackSpec.vars false W args.toList ds gs before) :
    Calls Tryz.prog 6 args W fun e W' => ∃ v, e = .returned v ∧ Rows.rosterBackSpec.post enc Tryz.prog Tryz.f6 false true false false W args v W' := by
  have hW' := hW
  obtain ⟨p, q, hA0, hV, rfl, hfz, hnd⟩ := hW
  have hA : DataW.TrodAll enc Tryz.prog W 0 (fun _ => true) true Tryz.f6.params.toList args.toList ds p := hA0
  rw [Tryz.params6] at hA hval
  obtain ⟨v0, vs0, d0, ds0, p0, q0, hargs, rfl, rfl, h0, r0⟩ := trodAll_cons hA
  obtain ⟨e9, rfl, rfl⟩ := trodAll_nil r0
  subst e9
  obtain rfl : args = #[v0] := by cases args; simp_all
  obtain ⟨rfl, rfl⟩ := trodVars_none hV
  have hb := bound hk
  obtain ⟨fu0, h0⟩ := h0
  obtain ⟨a0, hr0, hl0, ho0⟩ := Rd.slice (R := RStpZ) (e := 35) (sz := 18) (blk H) (by decide) (rdStp (blk H)) fu0 _ _ h0 (hb d0 (by simp))
  rw [cells_sl Tryz.underlying22 (hval 0 22 v0 rfl rfl)] at hr0
  obtain ⟨s0, e0', hs0⟩ := hr0
  obtain rfl : v0 = s0 := by simpa using e0'
  have hF := rosterBack_walk (h := hp W) hs0.stpZ.1 hs0.stpZ.2
  refine (hF W (hp_ok W)).mono fun e W' ⟨v, h', ms', he, hst, hv, _⟩ => ?_
  subst he
  subst hv
  exact ⟨_, rfl, post_true laidOut params_ok hW' rfl (fun _ => rfl) (by kernel_rfl) Tryz.underlying4 ⟨hst.grow.os, hst.grow.tape, hst.grow.output, hst.grow.size, fun b hb _ => hst.grow.block b hb (fun ⟨k, hk, _⟩ => by cases hk)⟩⟩
set_option maxRecDepth 100000 in
theorem lifted (os : Os) (started : os.Started) (H : Type) (enc : TypeId × Value → H) (F : Stop.Interp) :
    ReturnsInHanded {} Tryz.checked os 6 .any ((Rows.OpenSpec.upto Rows.rosterBackSpec).pre6 enc Tryz.prog Tryz.f6 Rows.rosterBackUptoRow.domain false) (((Rows.OpenSpec.upto Rows.rosterBackSpec).at F).post enc Tryz.prog Tryz.f6 false true false false) := by
  refine returnsInHanded_of_cond (C := Tryz.checked) (s := Rows.OpenSpec.upto Rows.rosterBackSpec) (k := Rows.uptoSmall) rfl own started (by kernel_rfl) Tryz.func6
    (OpenSpec.witness (enc := enc) (C := Tryz.checked) (s := Rows.OpenSpec.upto Rows.rosterBackSpec) (k := Rows.uptoSmall) rfl false ⟨#[], #[(.slice none 0 0)], []⟩ 64 (by kernel_rfl) (by kernel_rfl) (by kernel_rfl)
      (x := ([.nil], [], [])) (by kernel_rfl) rfl (by kernel_rfl)) ?_
  intro W base args ds gs before hval hW _ hk _
  exact contract H enc W base args ds gs before hk hval hW
theorem over : Rows.rosterBackUptoRow.holds Tryz.pinned (Rows.OpenSpec.upto Rows.rosterBackSpec) :=
  OpenClaim.holds_of_cond 6 Tryz.f6 rfl rfl rfl rfl rfl rfl rfl ⟨rfl, rfl, rfl, rfl, rfl⟩ rfl rfl rfl rfl rfl (by kernel_rfl) Tryz.func6 (by kernel_rfl)
    (of_decide_eq_true (by kernel_rfl)) (by unfold Func.isWrapper; first | (rw [if_pos (by decide +kernel)]; kernel_rfl) | (rw [if_neg (by decide +kernel)]; exact ⟨rfl, rfl⟩))
    (fun os started H enc _ F => lifted os started H enc F)
theorem proved : Rows.RosterBackUptoSaid := over
end Go.Proofs.YtemcklmfpapmpaaGreat.rosterBack
