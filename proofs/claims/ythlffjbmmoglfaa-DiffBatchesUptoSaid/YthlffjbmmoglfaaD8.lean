/-
  The law DiffTells, walked. Conditions: none.
-/
import Derived.Test.YthlffjbmmoglfaaD7
namespace Go.Sod
set_option linter.unusedVariables false
set_option linter.unusedSimpArgs false
set_option maxRecDepth 10000
set_option maxHeartbeats 4000000

open Classical in
theorem ris_lt {α : Type} {xs : List α} {f : α → ByteArray} (h : risB (xs.map f) = true) : ∀ j i (hj : j < xs.length) (hi : i < xs.length), i < j → strLt (f xs[i]) (f xs[j]) = true := by
  have h : RisTo (xs.map f) (xs.map f).length := by
    unfold risB at h
    exact of_decide_eq_true h
  intro j
  induction j with
  | zero => intro i _ _ h; omega
  | succ j ih =>
    intro i hj hi hij
    have hs := h j (by rw [List.length_map]; omega)
    rw [getD_id (by omega), getD_id hj] at hs
    by_cases e : i = j
    · subst e; exact hs
    · exact strLt_trans (ih i (by omega) hi (by omega)) hs
theorem find_rev {α : Type} {xs : List α} {p : α → Bool} (h : ∀ i j (hi : i < xs.length) (hj : j < xs.length), p xs[i] = true → p xs[j] = true → i = j) : xs.reverse.find? p = xs.find? p := by
  cases e : xs.find? p with
  | none =>
    rw [List.find?_eq_none] at e ⊢
    exact fun x hx => e x (List.mem_reverse.1 hx)
  | some a =>
    obtain ⟨pa, i, hi, rfl, _⟩ := List.find?_eq_some_iff_getElem.1 e
    cases e2 : xs.reverse.find? p with
    | none =>
      rw [List.find?_eq_none] at e2
      exact (e2 _ (List.mem_reverse.2 (List.getElem_mem hi)) pa).elim
    | some b =>
      obtain ⟨pb, hb⟩ : p b = true ∧ b ∈ xs.reverse := ⟨List.find?_some e2, List.mem_of_find?_eq_some e2⟩
      obtain ⟨j, hj, rfl⟩ := List.getElem_of_mem (List.mem_reverse.1 hb)
      have := h i j hi hj pa pb
      subst this; rfl
theorem lastS_ris {xs : List Svc} (h : risB (xs.map (·.id)) = true) (id : ByteArray) : lastS xs id = xs.find? (idS id) := by
  refine find_rev fun i j hi hj h1 h2 => ?_
  have e1 : xs[i].id = id := by simpa using h1
  have e2 : xs[j].id = id := by simpa using h2
  rcases Nat.lt_trichotomy i j with hl | hl | hl
  · exact (strLt_ne (ris_lt (f := fun s => s.id) h j i hj hi hl) (e1.trans e2.symm)).elim
  · exact hl
  · exact (strLt_ne (ris_lt (f := fun s => s.id) h i j hi hj hl) (e2.trans e1.symm)).elim
theorem lastC_ris {xs : List Chk} (h : risB (xs.map (·.id)) = true) (id : ByteArray) : lastC xs id = xs.find? (idC id) := by
  refine find_rev fun i j hi hj h1 h2 => ?_
  have e1 : xs[i].id = id := by simpa using h1
  have e2 : xs[j].id = id := by simpa using h2
  rcases Nat.lt_trichotomy i j with hl | hl | hl
  · exact (strLt_ne (ris_lt (f := fun s => s.id) h j i hj hi hl) (e1.trans e2.symm)).elim
  · exact hl
  · exact (strLt_ne (ris_lt (f := fun s => s.id) h i j hi hj hl) (e2.trans e1.symm)).elim
theorem keepS_eq {cs : List Svc} (h : risB (cs.map (·.id)) = true) (x : Svc) : (!keepS cs x) = (!(lastS cs x.id).isSome || !sameSvc x ((lastS cs x.id).getD svc0)) := by
  rw [lastS_ris h]
  unfold keepS sameSvc
  rw [idx_some]
  have a1 : decide ((wasS cs x.id).name = x.name) = decide (x.name = ((cs.find? (idS x.id)).getD svc0).name) := by simp only [eq_comm, wasS]
  have a2 : decide ((wasS cs x.id).port = x.port) = decide (x.port = ((cs.find? (idS x.id)).getD svc0).port) := by simp only [eq_comm, wasS]
  have a3 : decide ((wasS cs x.id).tags = x.tags) = decide (x.tags = ((cs.find? (idS x.id)).getD svc0).tags) := by simp only [eq_comm, wasS]
  rw [a1, a2, a3]
  cases (cs.find? (idS x.id)).isSome <;> cases decide (x.name = ((cs.find? (idS x.id)).getD svc0).name) <;> cases decide (x.port = ((cs.find? (idS x.id)).getD svc0).port) <;> cases decide (x.tags = ((cs.find? (idS x.id)).getD svc0).tags) <;> rfl
theorem keepC_eq {cs : List Chk} (h : risB (cs.map (·.id)) = true) (x : Chk) : (!keepC cs x) = (!(lastC cs x.id).isSome || !sameChk x ((lastC cs x.id).getD chk0)) := by
  rw [lastC_ris h]
  unfold keepC sameChk
  rw [idx_some]
  have a1 : decide ((wasC cs x.id).service = x.service) = decide (x.service = ((cs.find? (idC x.id)).getD chk0).service) := by simp only [eq_comm, wasC]
  have a2 : decide ((wasC cs x.id).note = x.note) = decide (x.note = ((cs.find? (idC x.id)).getD chk0).note) := by simp only [eq_comm, wasC]
  have a3 : decide ((wasC cs x.id).status = x.status) = decide (x.status = ((cs.find? (idC x.id)).getD chk0).status) := by simp only [eq_comm, wasC]
  rw [a1, a2, a3]
  cases (cs.find? (idC x.id)).isSome <;> cases decide (x.service = ((cs.find? (idC x.id)).getD chk0).service) <;> cases decide (x.note = ((cs.find? (idC x.id)).getD chk0).note) <;> cases decide (x.status = ((cs.find? (idC x.id)).getD chk0).status) <;> rfl
open Classical in
theorem risB_nil : risB [] = true := decide_eq_true (fun i hi => by simp at hi)
theorem catS_ris {c : Own} (h : risB (c.services.map (·.id)) = true) : risB ((catS c).map (·.id)) = true := by
  unfold catS; split
  · exact h
  · exact risB_nil
theorem catC_ris {c : Own} (h : risB (c.checks.map (·.id)) = true) : risB ((catC c).map (·.id)) = true := by
  unfold catC; split
  · exact h
  · exact risB_nil
theorem ref_diff {o c : Own} (ho : risO o = true) (hc : risO c = true) : refL4 o c o.checks.length = diffL o c := by
  simp only [risO, Bool.and_eq_true] at ho hc
  have hs := catS_ris hc.1
  have hk := catC_ris hc.2
  simp only [refL4, refL3, refL2, refL1, diffL, List.take_length, dropsC, dropsS, laysS, laysC, fm]
  have n1 : nodeR o c = nodeL o c := by simp only [nodeR, nodeL, eq_comm]
  have n2 : goneC o.checks = fun y => !(lastC o.checks y.id).isSome := by funext y; simp only [goneC]; rw [idx_neg, lastC_ris ho.2]
  have n3 : goneS o.services = fun y => !(lastS o.services y.id).isSome := by funext y; simp only [goneS]; rw [idx_neg, lastS_ris ho.1]
  have n4 : (fun x => !keepS (catS c) x) = fun x => !(lastS (catS c) x.id).isSome || !sameSvc x ((lastS (catS c) x.id).getD svc0) := by funext x; exact keepS_eq hs x
  have n5 : (fun x => !keepC (catC c) x) = fun x => !(lastC (catC c) x.id).isSome || !sameChk x ((lastC (catC c) x.id).getD chk0) := by funext x; exact keepC_eq hk x
  rw [n1, n2, n3, n4, n5]
theorem few_bulk (o c : Own) : bulkO (few o) (few c) ≤ 120 := by
  simp only [bulkO, few, List.length_take]; omega

theorem difftells_walk {h : Hp} {o c : Own} {osv ocv csv ccv : Value} (hos : SlR h 7 RSvc osv o.services) (hoc : SlR h 7 RChk ocv o.checks) (hcs : SlR h 7 RSvc csv c.services) (hcc : SlR h 7 RChk ccv c.checks) : FH Go.Proofs.Try.prog 3 [.agg ⟨ownV o osv ocv⟩, .agg ⟨ownV c csv ccv⟩] h (fun r h' => r = .bool true) := by
  refine FS.enter Go.Proofs.Try.func3 rfl rfl fun w0 => ?_
  obtain ⟨sA, sc, rfl⟩ := hos.form
  obtain ⟨cA, cc, rfl⟩ := hoc.form
  obtain ⟨sA', sc', rfl⟩ := hcs.form
  obtain ⟨cA', cc', rfl⟩ := hcc.form
  refine .seq (.text (.box (cs := [_, _, _, _, _]) rfl rfl rfl rfl fun b2 => .box (cs := [_, _, _, _, _]) rfl rfl rfl rfl fun b3 => .as_ rfl rfl (.done (.thenN ?_))))
  refine .seq (.draw [(0, .read), (2, .read), (1, .grow), (3, .grow), (4, .mut), (5, .mut)] rfl (by kernel_rfl) (.ldW rfl rfl rfl rfl (.ldW rfl rfl rfl rfl (?_))))
  refine .callH rfl rfl (few_walk hos hoc) rfl rfl fun u7 h7 hl7 hu7 => ?_
  obtain ⟨osv, ocv, rfl, hos, hoc⟩ := hu7
  have hcs := hcs.mono RSvc.mono hl7
  have hcc := hcc.mono RChk.mono hl7
  refine ?_
  refine .callH rfl rfl (few_walk hcs hcc) rfl rfl fun u9 h9 hl9 hu9 => ?_
  obtain ⟨csv, ccv, rfl, hcs, hcc⟩ := hu9
  have hos := hos.mono RSvc.mono hl9
  have hoc := hoc.mono RChk.mono hl9
  obtain ⟨sA, sc, rfl⟩ := hos.form
  obtain ⟨cA, cc, rfl⟩ := hoc.form
  obtain ⟨sA', sc', rfl⟩ := hcs.form
  obtain ⟨cA', cc', rfl⟩ := hcc.form
  have hb := few_bulk o c
  refine .stW rfl rfl rfl rfl rfl rfl (.stW rfl rfl rfl rfl rfl rfl (.done (.thenN ?_)))
  refine .seq (.seq (.text (.ldW rfl rfl rfl rfl (?_))))
  refine .callV rfl rfl (rising_walk hos hoc) rfl rfl (.not rfl rfl (.mv rfl rfl (.or (d := 17) (g := 13) _ _ (take_drop 4) rfl rfl (fun hb2_4 => .guard rfl rfl rfl rfl (.ldW rfl rfl rfl rfl (.guard rfl rfl rfl rfl (.callV rfl rfl (rising_walk hcs hcc) rfl rfl (.guard rfl rfl rfl rfl (.not rfl rfl (.pick rfl rfl rfl rfl ((.done (.thenN (.midB rfl))))))))))) (.guardNo rfl rfl rfl rfl rfl rfl (.guardNo rfl rfl rfl rfl rfl rfl (.guardNo rfl rfl rfl rfl rfl rfl (.pick rfl rfl rfl rfl ((.done (.thenN (.midB rfl)))))))) (.done (.thenN ?_)))))
  refine .cond rfl (fun hb2 => ?_) (fun hb2 => ?_)
  ·
    refine .seq (.text (.callH rfl rfl works_walk rfl rfl fun u18 h18 hl18 hu18 => ?_))
    subst hu18
    refine .as_ rfl rfl (.done (.thenN ?_))
    refine .ret (.thenR ?_)
    exact J.retH rfl rfl
  ·
    have hro : risO (few o) = true := by cases e : risO (few o) <;> simp [e] at hb2 ⊢
    have hrc : risO (few c) = true := by cases e : risO (few c) <;> simp [hro, e] at hb2 ⊢
    refine .skip (.thenN ?_)
    refine .seq (.text (.ldW rfl rfl rfl rfl (.ldW rfl rfl rfl rfl (?_))))
    refine .callH rfl rfl (ref_walk hos hoc hcs hcc (by unfold maxL; omega)) rfl rfl fun u21 h21 hl21 hu21 => ?_
    rw [ref_diff hro hrc] at hu21
    have hos := hos.mono RSvc.mono hl21
    have hoc := hoc.mono RChk.mono hl21
    have hcs := hcs.mono RSvc.mono hl21
    have hcc := hcc.mono RChk.mono hl21
    refine .as_ rfl rfl (.done (.thenN ?_))
    refine .seq (.text (.ldW rfl rfl rfl rfl (.ldW rfl rfl rfl rfl (?_))))
    refine .callH rfl rfl (diff_walk hos hoc hcs hcc (by unfold maxL; omega)) rfl rfl fun u24 h24 hl24 hu24 => ?_
    have hu21 := hu21.mono RCmd.mono hl24
    have hos := hos.mono RSvc.mono hl24
    have hoc := hoc.mono RChk.mono hl24
    have hcs := hcs.mono RSvc.mono hl24
    have hcc := hcc.mono RChk.mono hl24
    refine .mv rfl rfl (?_)
    refine .callH rfl rfl (cmds_walk hu24 hu21) rfl rfl fun u26 h26 hl26 hu26 => ?_
    subst hu26
    have hu21 := hu21.mono RCmd.mono hl26
    have hos := hos.mono RSvc.mono hl26
    have hoc := hoc.mono RChk.mono hl26
    have hcs := hcs.mono RSvc.mono hl26
    have hcc := hcc.mono RChk.mono hl26
    refine .mv rfl rfl (.guard rfl rfl rfl rfl (.ldW rfl rfl rfl rfl (.guard rfl rfl rfl rfl (.ldW rfl rfl rfl rfl (.guard rfl rfl rfl rfl (?_))))))
    refine .callH rfl rfl (dsame_walk hos hoc hcs hcc (by unfold maxL; omega)) rfl rfl fun u30 h30 hl30 hu30 => ?_
    subst hu30
    have hu21 := hu21.mono RCmd.mono hl30
    refine .guard rfl rfl rfl rfl (.mv rfl rfl (.guard rfl rfl rfl rfl (.len hu21 rfl rfl rfl (.guard rfl rfl rfl rfl (.cmp rfl rfl rfl rfl (.guard rfl rfl rfl rfl (.eqB (b := true) rfl rfl (.inl ⟨rfl, by simp⟩) rfl (.pick rfl rfl rfl rfl (.mv rfl rfl (.guard rfl rfl rfl rfl (?_)))))))))))
    refine .callH rfl rfl works_walk rfl rfl fun u37 h37 hl37 hu37 => ?_
    subst hu37
    refine .pick rfl rfl rfl rfl (.as_ rfl rfl (.done (.thenN ?_)))
    refine .ret ?_
    exact J.retH rfl rfl
end Go.Sod
