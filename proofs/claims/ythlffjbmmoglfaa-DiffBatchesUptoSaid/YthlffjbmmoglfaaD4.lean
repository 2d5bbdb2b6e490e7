/-
  Diff, walked. Conditions: none.
-/
import Derived.Test.YthlffjbmmoglfaaD3
namespace Go.Sod
set_option linter.unusedVariables false
set_option linter.unusedSimpArgs false
set_option maxRecDepth 10000
set_option maxHeartbeats 4000000

def ownV (o : Own) (sv cv : Value) : List Value := [.bool o.there, .int .i64 o.node, .string o.addr, sv, cv]
def catS (c : Own) : List Svc := if c.there then c.services else []
def catC (c : Own) : List Chk := if c.there then c.checks else []
def nodeL (o c : Own) : List Cmd := if (!c.there || !decide (o.addr = c.addr)) = true then [{ cmd0 1 o.node with note := o.addr }] else []
def diffL (o c : Own) : List Cmd := nodeL o c ++ dropsC o.checks (catC c) o.node ++ dropsS o.services (catS c) o.node ++ laysS o.services (catS c) o.node ++ laysC o.checks (catC c) o.node
def bulkO (o c : Own) : Nat := o.services.length + o.checks.length + c.services.length + c.checks.length
theorem catS_len (c : Own) : (catS c).length ≤ c.services.length := by unfold catS; split <;> simp
theorem catC_len (c : Own) : (catC c).length ≤ c.checks.length := by unfold catC; split <;> simp
theorem nodeL_len (o c : Own) : (nodeL o c).length ≤ 1 := by unfold nodeL; split <;> simp

theorem diff_walk {h : Hp} {o c : Own} {osv ocv csv ccv : Value} (hos : SlR h 7 RSvc osv o.services) (hoc : SlR h 7 RChk ocv o.checks) (hcs : SlR h 7 RSvc csv c.services) (hcc : SlR h 7 RChk ccv c.checks) (hlen : bulkO o c < maxL) : FH Go.Proofs.Try.prog 10 [.agg ⟨ownV o osv ocv⟩, .agg ⟨ownV c csv ccv⟩] h (fun r h' => SlR h' 17 RCmd r (diffL o c)) := by
  refine FS.enter Go.Proofs.Try.func10 rfl rfl fun w0 => ?_
  obtain ⟨sA, sc, rfl⟩ := hos.form
  obtain ⟨cA, cc, rfl⟩ := hoc.form
  obtain ⟨sA', sc', rfl⟩ := hcs.form
  obtain ⟨cA', cc', rfl⟩ := hcc.form
  refine .seq (.text (.box (cs := [_, _, _, _, _]) rfl rfl rfl rfl fun b2 => .box (cs := [_, _, _, _, _]) rfl rfl rfl rfl fun b3 => .as_ rfl rfl (.done (.thenN ?_))))
  refine .seq (.text (.as_ rfl rfl (.done (.thenN ?_))))
  refine J.cut (ι := Value × Value) (fun i => SlR h 7 RSvc i.1 (catS c) ∧ SlR h 7 RChk i.2 (catC c)) (fun i => [(2, .pointer (some ⟨b2, 0, none⟩)), (3, .pointer (some ⟨b3, 0, none⟩)), (5, nilV)]) (fun _ => h) (fun i => [one b3 (.cells ⟨ownV c i.1 i.2⟩ 25 (0, 0)), one b2 (.cells ⟨ownV o (.slice sA o.services.length sc) (.slice cA o.checks.length cc)⟩ 25 (0, 0))]) ?_ ?_
  ·
    refine .seq (.text (.fa rfl rfl (.ld rfl rfl rfl rfl (.not rfl rfl (.done (.thenN ?_))))))
    refine .cond rfl (fun hb2 => ?_) (fun hb2 => ?_)
    ·
      refine .text (.fa rfl rfl (.stS rfl rfl rfl rfl (.fa rfl rfl (.stS rfl rfl rfl rfl (.done (.thenN ?_))))))
      have e : c.there = false := by simpa using hb2
      refine J.mid (nilV, nilV) ⟨?_, ?_⟩ (.cons rfl (.cons rfl (.cons rfl (.nil _)))) rfl rfl
      · simp only [catS, e]; exact SlR.nil ..
      · simp only [catC, e]; exact SlR.nil ..
    ·
      refine .skip (.thenN ?_)
      have e : c.there = true := by simpa using hb2
      refine J.mid (_, _) ⟨?_, ?_⟩ (.cons rfl (.cons rfl (.cons rfl (.nil _)))) rfl rfl
      · simpa only [catS, e, if_true] using hcs
      · simpa only [catC, e, if_true] using hcc
  ·
    rintro ⟨sv, cv⟩ ⟨hcs, hcc⟩
    dsimp only at hcs hcc ⊢
    obtain ⟨sA', sc', rfl⟩ := hcs.form
    obtain ⟨cA', cc', rfl⟩ := hcc.form
    refine J.addE ?_
    refine J.cut (ι := Value × Hp) (fun i => SlT i.2 h i.1 17 42 RCmd (nodeL o c)) (fun i => [(2, .pointer (some ⟨b2, 0, none⟩)), (3, .pointer (some ⟨b3, 0, none⟩)), (5, i.1)]) (fun _ => h) (fun i => [i.2, one b3 (.cells ⟨ownV c (.slice sA' (catS c).length sc') (.slice cA' (catC c).length cc')⟩ 25 (0, 0)), one b2 (.cells ⟨ownV o (.slice sA o.services.length sc) (.slice cA o.checks.length cc)⟩ 25 (0, 0))]) ?_ ?_
    ·
      refine .seq (.text (.fa rfl rfl (.ld rfl rfl rfl rfl (.not rfl rfl (.mv rfl rfl (.or (d := 22) (g := 16) _ _ (take_drop 6) rfl rfl (fun hb4_4 => .guard rfl rfl rfl rfl (.fa rfl rfl (.guard rfl rfl rfl rfl (.ld rfl rfl rfl rfl (.guard rfl rfl rfl rfl (.fa rfl rfl (.guard rfl rfl rfl rfl (.ld rfl rfl rfl rfl (.guard rfl rfl rfl rfl (.cmpS rfl rfl rfl rfl (.pick rfl rfl rfl rfl ((.done (.thenN (.midB rfl))))))))))))))) (.guardNo rfl rfl rfl rfl rfl rfl (.guardNo rfl rfl rfl rfl rfl rfl (.guardNo rfl rfl rfl rfl rfl rfl (.guardNo rfl rfl rfl rfl rfl rfl (.guardNo rfl rfl rfl rfl rfl rfl (.pick rfl rfl rfl rfl ((.done (.thenN (.midB rfl)))))))))) (.done (.thenN ?_))))))))
      refine .cond rfl (fun hb4 => ?_) (fun hb4 => ?_)
      ·
        refine .text (.mv rfl rfl (.fa rfl rfl (.ld rfl rfl rfl rfl (.fa rfl rfl (.ld rfl rfl rfl rfl (.bld [_, _, _, _, _, _, _, _, _, _, _, _, _, _, _, _, _] rfl (by rfl) rfl ?_))))))
        refine .bs [_, _, _, _, _, _, _, _, _, _, _, _, _, _, _, _, _] rfl rfl rfl rfl (by decide) rfl rfl rfl fun b29 => .app1 (R := RCmd) (z := { cmd0 1 o.node with note := o.addr }) rfl (SlT.nil h 17 42 RCmd) rfl rfl rfl rfl ⟨1, nilV, nilV, rfl, SlR.nil _ _ _, SlR.nil _ _ _⟩ (by simp [maxL]) rfl rfl fun v30 m30 hm30 => .as_ rfl rfl (.done (.thenN ?_))
        refine J.dropF 1 (J.mid (v30, m30) ?_ (.cons rfl (.cons rfl (.cons rfl (.nil _)))) rfl rfl)
        show SlT m30 h v30 17 42 RCmd (nodeL o c)
        rw [nodeL, if_pos hb4]; exact hm30
      ·
        refine .skip (.thenN ?_)
        refine J.mid (nilV, Hp.emp) ?_ (.cons rfl (.cons rfl (.cons rfl (.nil _)))) rfl rfl
        show SlT Hp.emp h nilV 17 42 RCmd (nodeL o c)
        rw [nodeL, if_neg (by rw [hb4]; decide)]; exact SlT.nil ..
    ·
      rintro ⟨v5, m⟩ hm
      dsimp only at hm ⊢
      refine J.cut (ι := Nat × Nat × Nat × Nat × Hp) (fun i => h.le i.2.2.2.2 ∧ i.2.2.2.2 i.1 = some (.cells ⟨[.int .i64 o.node]⟩ 3 (0, 0)) ∧ i.2.2.2.2 i.2.1 = some (.cells ⟨[.int .i64 o.node]⟩ 3 (0, 0))) (fun i => [(2, .pointer (some ⟨b2, 0, none⟩)), (3, .pointer (some ⟨b3, 0, none⟩)), (5, v5), (6, .pointer (some ⟨i.2.2.1, 0, none⟩)), (7, .pointer (some ⟨i.2.2.2.1, 0, none⟩))]) (fun i => i.2.2.2.2) (fun i => [one i.2.2.2.1 (.cells ⟨kChk i.2.1⟩ 58 (0, 0)), one i.2.2.1 (.cells ⟨kSvc i.1⟩ 52 (0, 0)), m, one b3 (.cells ⟨ownV c (.slice sA' (catS c).length sc') (.slice cA' (catC c).length cc')⟩ 25 (0, 0)), one b2 (.cells ⟨ownV o (.slice sA o.services.length sc) (.slice cA o.checks.length cc)⟩ 25 (0, 0))]) ?_ ?_
      ·
        refine .tree (.seq [(0, .pure), (1, .read), (3, .pure), (4, .read)] (.both (.seq [(2, .grow)] (.both (.seq [(5, .grow)] (.both (.seq [(6, .grow), (7, .grow), (8, .mut), (9, .mut)] .nil) (.seq [(7, .grow), (6, .grow), (8, .mut), (9, .mut)] .nil))) (.both (.seq [(6, .grow)] (.both (.seq [(5, .grow), (7, .grow), (8, .mut), (9, .mut)] .nil) (.seq [(7, .grow), (5, .grow), (8, .mut), (9, .mut)] .nil))) (.seq [(7, .grow)] (.both (.seq [(5, .grow), (6, .grow), (8, .mut), (9, .mut)] .nil) (.seq [(6, .grow), (5, .grow), (8, .mut), (9, .mut)] .nil)))))) (.both (.seq [(6, .grow)] (.both (.seq [(2, .grow)] (.both (.seq [(5, .grow), (7, .grow), (8, .mut), (9, .mut)] .nil) (.seq [(7, .grow), (5, .grow), (8, .mut), (9, .mut)] .nil))) (.seq [(7, .grow), (2, .grow), (5, .grow), (8, .mut), (9, .mut)] .nil))) (.seq [(7, .grow)] (.both (.seq [(2, .grow)] (.both (.seq [(5, .grow), (6, .grow), (8, .mut), (9, .mut)] .nil) (.seq [(6, .grow), (5, .grow), (8, .mut), (9, .mut)] .nil))) (.seq [(6, .grow), (2, .grow), (5, .grow), (8, .mut), (9, .mut)] .nil)))))) [1020, 1016, 0, 999, 967, 0, 0, 0, 0, 0] [0, 1, 2, 0, 8, 20, 0, 0, 231, 511] rfl (by kernel_rfl) (by kernel_rfl) ?_
        refine .tSeq (.fa rfl rfl (.ld rfl rfl rfl rfl (.fa rfl rfl (.ld rfl rfl rfl rfl (.done (.thenN ?_))))))
        refine .tBoth ?_ ?_
        ·
          refine .tSeq (.callH rfl rfl servicesK rfl rfl fun u33 h33 hl33 hu33 => ?_)
          obtain ⟨B33, rfl, hB33⟩ := hu33
          refine .done (.thenN ?_)
          refine .tBoth ?_ ?_
          ·
            refine .tSeq (.callH rfl rfl checksK rfl rfl fun u36 h36 hl36 hu36 => ?_)
            obtain ⟨B36, rfl, hB36⟩ := hu36
            refine .done (.thenN ?_)
            refine .tBoth ?_ ?_
            ·
              refine .tSeq (.alloc (cs := [_, _, _, _]) rfl rfl rfl fun b6 => .alloc (cs := [_, _, _, _]) rfl rfl rfl fun b7 => .stW rfl rfl rfl rfl rfl rfl (.stW rfl rfl rfl rfl rfl rfl (.done (.thenN ?_))))
              refine .tNil (.thenN ?_)
              first | exact J.mid (B33, B36, b6, b7, h36) ⟨Hp.le_trans hl33 hl36, hl36 _ _ hB33, hB36⟩ (.cons rfl (.cons rfl (.cons rfl (.cons rfl (.cons rfl (.nil _)))))) rfl rfl | exact J.front 1 rfl (J.mid (B33, B36, b6, b7, h36) ⟨Hp.le_trans hl33 hl36, hl36 _ _ hB33, hB36⟩ (.cons rfl (.cons rfl (.cons rfl (.cons rfl (.cons rfl (.nil _)))))) rfl rfl)
            refine .tSeq (.alloc (cs := [_, _, _, _]) rfl rfl rfl fun b7 => .alloc (cs := [_, _, _, _]) rfl rfl rfl fun b6 => .stW rfl rfl rfl rfl rfl rfl (.stW rfl rfl rfl rfl rfl rfl (.done (.thenN ?_))))
            refine .tNil (.thenN ?_)
            first | exact J.mid (B33, B36, b6, b7, h36) ⟨Hp.le_trans hl33 hl36, hl36 _ _ hB33, hB36⟩ (.cons rfl (.cons rfl (.cons rfl (.cons rfl (.cons rfl (.nil _)))))) rfl rfl | exact J.front 1 rfl (J.mid (B33, B36, b6, b7, h36) ⟨Hp.le_trans hl33 hl36, hl36 _ _ hB33, hB36⟩ (.cons rfl (.cons rfl (.cons rfl (.cons rfl (.cons rfl (.nil _)))))) rfl rfl)
          refine .tBoth ?_ ?_
          ·
            refine .tSeq (.alloc (cs := [_, _, _, _]) rfl rfl rfl fun b6 => .done (.thenN ?_))
            refine .tBoth ?_ ?_
            ·
              refine .tSeq (.callH rfl rfl checksK rfl rfl fun u36 h36 hl36 hu36 => ?_)
              obtain ⟨B36, rfl, hB36⟩ := hu36
              refine .alloc (cs := [_, _, _, _]) rfl rfl rfl fun b7 => .stW rfl rfl rfl rfl rfl rfl (.stW rfl rfl rfl rfl rfl rfl (.done (.thenN ?_)))
              refine .tNil (.thenN ?_)
              first | exact J.mid (B33, B36, b6, b7, h36) ⟨Hp.le_trans hl33 hl36, hl36 _ _ hB33, hB36⟩ (.cons rfl (.cons rfl (.cons rfl (.cons rfl (.cons rfl (.nil _)))))) rfl rfl | exact J.front 1 rfl (J.mid (B33, B36, b6, b7, h36) ⟨Hp.le_trans hl33 hl36, hl36 _ _ hB33, hB36⟩ (.cons rfl (.cons rfl (.cons rfl (.cons rfl (.cons rfl (.nil _)))))) rfl rfl)
            refine .tSeq (.alloc (cs := [_, _, _, _]) rfl rfl rfl fun b7 => ?_)
            refine .callH rfl rfl checksK rfl rfl fun u36 h36 hl36 hu36 => ?_
            obtain ⟨B36, rfl, hB36⟩ := hu36
            refine .stW rfl rfl rfl rfl rfl rfl (.stW rfl rfl rfl rfl rfl rfl (.done (.thenN ?_)))
            refine .tNil (.thenN ?_)
            first | exact J.mid (B33, B36, b6, b7, h36) ⟨Hp.le_trans hl33 hl36, hl36 _ _ hB33, hB36⟩ (.cons rfl (.cons rfl (.cons rfl (.cons rfl (.cons rfl (.nil _)))))) rfl rfl | exact J.front 1 rfl (J.mid (B33, B36, b6, b7, h36) ⟨Hp.le_trans hl33 hl36, hl36 _ _ hB33, hB36⟩ (.cons rfl (.cons rfl (.cons rfl (.cons rfl (.cons rfl (.nil _)))))) rfl rfl)
          refine .tSeq (.alloc (cs := [_, _, _, _]) rfl rfl rfl fun b7 => .done (.thenN ?_))
          refine .tBoth ?_ ?_
          ·
            refine .tSeq (.callH rfl rfl checksK rfl rfl fun u36 h36 hl36 hu36 => ?_)
            obtain ⟨B36, rfl, hB36⟩ := hu36
            refine .alloc (cs := [_, _, _, _]) rfl rfl rfl fun b6 => .stW rfl rfl rfl rfl rfl rfl (.stW rfl rfl rfl rfl rfl rfl (.done (.thenN ?_)))
            refine .tNil (.thenN ?_)
            first | exact J.mid (B33, B36, b6, b7, h36) ⟨Hp.le_trans hl33 hl36, hl36 _ _ hB33, hB36⟩ (.cons rfl (.cons rfl (.cons rfl (.cons rfl (.cons rfl (.nil _)))))) rfl rfl | exact J.front 1 rfl (J.mid (B33, B36, b6, b7, h36) ⟨Hp.le_trans hl33 hl36, hl36 _ _ hB33, hB36⟩ (.cons rfl (.cons rfl (.cons rfl (.cons rfl (.cons rfl (.nil _)))))) rfl rfl)
          refine .tSeq (.alloc (cs := [_, _, _, _]) rfl rfl rfl fun b6 => ?_)
          refine .callH rfl rfl checksK rfl rfl fun u36 h36 hl36 hu36 => ?_
          obtain ⟨B36, rfl, hB36⟩ := hu36
          refine .stW rfl rfl rfl rfl rfl rfl (.stW rfl rfl rfl rfl rfl rfl (.done (.thenN ?_)))
          refine .tNil (.thenN ?_)
          first | exact J.mid (B33, B36, b6, b7, h36) ⟨Hp.le_trans hl33 hl36, hl36 _ _ hB33, hB36⟩ (.cons rfl (.cons rfl (.cons rfl (.cons rfl (.cons rfl (.nil _)))))) rfl rfl | exact J.front 1 rfl (J.mid (B33, B36, b6, b7, h36) ⟨Hp.le_trans hl33 hl36, hl36 _ _ hB33, hB36⟩ (.cons rfl (.cons rfl (.cons rfl (.cons rfl (.cons rfl (.nil _)))))) rfl rfl)
        refine .tBoth ?_ ?_
        ·
          refine .tSeq (.alloc (cs := [_, _, _, _]) rfl rfl rfl fun b6 => .done (.thenN ?_))
          refine .tBoth ?_ ?_
          ·
            refine .tSeq (.callH rfl rfl servicesK rfl rfl fun u33 h33 hl33 hu33 => ?_)
            obtain ⟨B33, rfl, hB33⟩ := hu33
            refine .done (.thenN ?_)
            refine .tBoth ?_ ?_
            ·
              refine .tSeq (.callH rfl rfl checksK rfl rfl fun u36 h36 hl36 hu36 => ?_)
              obtain ⟨B36, rfl, hB36⟩ := hu36
              refine .alloc (cs := [_, _, _, _]) rfl rfl rfl fun b7 => .stW rfl rfl rfl rfl rfl rfl (.stW rfl rfl rfl rfl rfl rfl (.done (.thenN ?_)))
              refine .tNil (.thenN ?_)
              first | exact J.mid (B33, B36, b6, b7, h36) ⟨Hp.le_trans hl33 hl36, hl36 _ _ hB33, hB36⟩ (.cons rfl (.cons rfl (.cons rfl (.cons rfl (.cons rfl (.nil _)))))) rfl rfl | exact J.front 1 rfl (J.mid (B33, B36, b6, b7, h36) ⟨Hp.le_trans hl33 hl36, hl36 _ _ hB33, hB36⟩ (.cons rfl (.cons rfl (.cons rfl (.cons rfl (.cons rfl (.nil _)))))) rfl rfl)
            refine .tSeq (.alloc (cs := [_, _, _, _]) rfl rfl rfl fun b7 => ?_)
            refine .callH rfl rfl checksK rfl rfl fun u36 h36 hl36 hu36 => ?_
            obtain ⟨B36, rfl, hB36⟩ := hu36
            refine .stW rfl rfl rfl rfl rfl rfl (.stW rfl rfl rfl rfl rfl rfl (.done (.thenN ?_)))
            refine .tNil (.thenN ?_)
            first | exact J.mid (B33, B36, b6, b7, h36) ⟨Hp.le_trans hl33 hl36, hl36 _ _ hB33, hB36⟩ (.cons rfl (.cons rfl (.cons rfl (.cons rfl (.cons rfl (.nil _)))))) rfl rfl | exact J.front 1 rfl (J.mid (B33, B36, b6, b7, h36) ⟨Hp.le_trans hl33 hl36, hl36 _ _ hB33, hB36⟩ (.cons rfl (.cons rfl (.cons rfl (.cons rfl (.cons rfl (.nil _)))))) rfl rfl)
          refine .tSeq (.alloc (cs := [_, _, _, _]) rfl rfl rfl fun b7 => ?_)
          refine .callH rfl rfl servicesK rfl rfl fun u33 h33 hl33 hu33 => ?_
          obtain ⟨B33, rfl, hB33⟩ := hu33
          refine ?_
          refine .callH rfl rfl checksK rfl rfl fun u36 h36 hl36 hu36 => ?_
          obtain ⟨B36, rfl, hB36⟩ := hu36
          refine .stW rfl rfl rfl rfl rfl rfl (.stW rfl rfl rfl rfl rfl rfl (.done (.thenN ?_)))
          refine .tNil (.thenN ?_)
          first | exact J.mid (B33, B36, b6, b7, h36) ⟨Hp.le_trans hl33 hl36, hl36 _ _ hB33, hB36⟩ (.cons rfl (.cons rfl (.cons rfl (.cons rfl (.cons rfl (.nil _)))))) rfl rfl | exact J.front 1 rfl (J.mid (B33, B36, b6, b7, h36) ⟨Hp.le_trans hl33 hl36, hl36 _ _ hB33, hB36⟩ (.cons rfl (.cons rfl (.cons rfl (.cons rfl (.cons rfl (.nil _)))))) rfl rfl)
        refine .tSeq (.alloc (cs := [_, _, _, _]) rfl rfl rfl fun b7 => .done (.thenN ?_))
        refine .tBoth ?_ ?_
        ·
          refine .tSeq (.callH rfl rfl servicesK rfl rfl fun u33 h33 hl33 hu33 => ?_)
          obtain ⟨B33, rfl, hB33⟩ := hu33
          refine .done (.thenN ?_)
          refine .tBoth ?_ ?_
          ·
            refine .tSeq (.callH rfl rfl checksK rfl rfl fun u36 h36 hl36 hu36 => ?_)
            obtain ⟨B36, rfl, hB36⟩ := hu36
            refine .alloc (cs := [_, _, _, _]) rfl rfl rfl fun b6 => .stW rfl rfl rfl rfl rfl rfl (.stW rfl rfl rfl rfl rfl rfl (.done (.thenN ?_)))
            refine .tNil (.thenN ?_)
            first | exact J.mid (B33, B36, b6, b7, h36) ⟨Hp.le_trans hl33 hl36, hl36 _ _ hB33, hB36⟩ (.cons rfl (.cons rfl (.cons rfl (.cons rfl (.cons rfl (.nil _)))))) rfl rfl | exact J.front 1 rfl (J.mid (B33, B36, b6, b7, h36) ⟨Hp.le_trans hl33 hl36, hl36 _ _ hB33, hB36⟩ (.cons rfl (.cons rfl (.cons rfl (.cons rfl (.cons rfl (.nil _)))))) rfl rfl)
          refine .tSeq (.alloc (cs := [_, _, _, _]) rfl rfl rfl fun b6 => ?_)
          refine .callH rfl rfl checksK rfl rfl fun u36 h36 hl36 hu36 => ?_
          obtain ⟨B36, rfl, hB36⟩ := hu36
          refine .stW rfl rfl rfl rfl rfl rfl (.stW rfl rfl rfl rfl rfl rfl (.done (.thenN ?_)))
          refine .tNil (.thenN ?_)
          first | exact J.mid (B33, B36, b6, b7, h36) ⟨Hp.le_trans hl33 hl36, hl36 _ _ hB33, hB36⟩ (.cons rfl (.cons rfl (.cons rfl (.cons rfl (.cons rfl (.nil _)))))) rfl rfl | exact J.front 1 rfl (J.mid (B33, B36, b6, b7, h36) ⟨Hp.le_trans hl33 hl36, hl36 _ _ hB33, hB36⟩ (.cons rfl (.cons rfl (.cons rfl (.cons rfl (.cons rfl (.nil _)))))) rfl rfl)
        refine .tSeq (.alloc (cs := [_, _, _, _]) rfl rfl rfl fun b6 => ?_)
        refine .callH rfl rfl servicesK rfl rfl fun u33 h33 hl33 hu33 => ?_
        obtain ⟨B33, rfl, hB33⟩ := hu33
        refine ?_
        refine .callH rfl rfl checksK rfl rfl fun u36 h36 hl36 hu36 => ?_
        obtain ⟨B36, rfl, hB36⟩ := hu36
        refine .stW rfl rfl rfl rfl rfl rfl (.stW rfl rfl rfl rfl rfl rfl (.done (.thenN ?_)))
        refine .tNil (.thenN ?_)
        first | exact J.mid (B33, B36, b6, b7, h36) ⟨Hp.le_trans hl33 hl36, hl36 _ _ hB33, hB36⟩ (.cons rfl (.cons rfl (.cons rfl (.cons rfl (.cons rfl (.nil _)))))) rfl rfl | exact J.front 1 rfl (J.mid (B33, B36, b6, b7, h36) ⟨Hp.le_trans hl33 hl36, hl36 _ _ hB33, hB36⟩ (.cons rfl (.cons rfl (.cons rfl (.cons rfl (.cons rfl (.nil _)))))) rfl rfl)
      ·
        rintro ⟨Bs, Bc, b6, b7, h6⟩ ⟨hl6, hBs, hBc⟩
        dsimp only at hl6 hBs hBc ⊢
        have hm := hm.mono RCmd.mono hl6
        have hos := hos.mono RSvc.mono hl6
        have hoc := hoc.mono RChk.mono hl6
        have hcs := hcs.mono RSvc.mono hl6
        have hcc := hcc.mono RChk.mono hl6
        have q1 := nodeL_len o c
        have q2 := dropsC_len o.checks (catC c) o.node
        have q3 := dropsS_len o.services (catS c) o.node
        have q4 := laysS_len o.services (catS c) o.node
        have q5 := laysC_len o.checks (catC c) o.node
        have q6 := catS_len c
        have q7 := catC_len c
        refine .seq (.text (.mv rfl rfl (.fa rfl rfl (.ld rfl rfl rfl rfl (.fa rfl rfl (.ld rfl rfl rfl rfl (.ldW rfl rfl rfl rfl (?_))))))))
        refine .callH rfl rfl (dropsC_walk hBc hoc hcc) rfl rfl fun u43 h43 hl43 hu43 => ?_
        have hm := hm.mono RCmd.mono hl43
        have hos := hos.mono RSvc.mono hl43
        have hoc := hoc.mono RChk.mono hl43
        have hcs := hcs.mono RSvc.mono hl43
        have hcc := hcc.mono RChk.mono hl43
        have hBs := hl43 _ _ hBs
        have hBc := hl43 _ _ hBc
        refine .appL rfl hm rfl hu43 rfl (by (try simp only [List.length_append]); unfold bulkO at hlen; omega) rfl rfl fun v44 m44 hm44 => .as_ rfl rfl (.done (.thenN ?_))
        refine .seq (.text (.mv rfl rfl (.fa rfl rfl (.ld rfl rfl rfl rfl (.fa rfl rfl (.ld rfl rfl rfl rfl (.ldW rfl rfl rfl rfl (?_))))))))
        refine .callH rfl rfl (dropsS_walk hBs hos hcs) rfl rfl fun u51 h51 hl51 hu51 => ?_
        have hm := hm44.mono RCmd.mono hl51
        have hos := hos.mono RSvc.mono hl51
        have hoc := hoc.mono RChk.mono hl51
        have hcs := hcs.mono RSvc.mono hl51
        have hcc := hcc.mono RChk.mono hl51
        have hBs := hl51 _ _ hBs
        have hBc := hl51 _ _ hBc
        refine .appL rfl hm rfl hu51 rfl (by (try simp only [List.length_append]); unfold bulkO at hlen; omega) rfl rfl fun v52 m52 hm52 => .as_ rfl rfl (.done (.thenN ?_))
        refine .seq (.text (.mv rfl rfl (.fa rfl rfl (.ld rfl rfl rfl rfl (.fa rfl rfl (.ld rfl rfl rfl rfl (.ldW rfl rfl rfl rfl (?_))))))))
        refine .callH rfl rfl (laysS_walk hBs hos hcs) rfl rfl fun u59 h59 hl59 hu59 => ?_
        have hm := hm52.mono RCmd.mono hl59
        have hos := hos.mono RSvc.mono hl59
        have hoc := hoc.mono RChk.mono hl59
        have hcs := hcs.mono RSvc.mono hl59
        have hcc := hcc.mono RChk.mono hl59
        have hBs := hl59 _ _ hBs
        have hBc := hl59 _ _ hBc
        refine .appL rfl hm rfl hu59 rfl (by (try simp only [List.length_append]); unfold bulkO at hlen; omega) rfl rfl fun v60 m60 hm60 => .as_ rfl rfl (.done (.thenN ?_))
        refine .seq (.text (.mv rfl rfl (.fa rfl rfl (.ld rfl rfl rfl rfl (.fa rfl rfl (.ld rfl rfl rfl rfl (.ldW rfl rfl rfl rfl (?_))))))))
        refine .callH rfl rfl (laysC_walk hBc hoc hcc) rfl rfl fun u67 h67 hl67 hu67 => ?_
        have hm := hm60.mono RCmd.mono hl67
        have hos := hos.mono RSvc.mono hl67
        have hoc := hoc.mono RChk.mono hl67
        have hcs := hcs.mono RSvc.mono hl67
        have hcc := hcc.mono RChk.mono hl67
        have hBs := hl67 _ _ hBs
        have hBc := hl67 _ _ hBc
        refine .appL rfl hm rfl hu67 rfl (by (try simp only [List.length_append]); unfold bulkO at hlen; omega) rfl rfl fun v68 m68 hm68 => .as_ rfl rfl (.done (.thenN ?_))
        refine .ret ?_
        refine J.front 2 rfl (J.frz hm68 RCmd.mono fun h' hl hs => J.retH rfl hs)
end Go.Sod
