/-
  The document's Diff, walked. Conditions: none.
-/
import Derived.Test.YthlffjbmmoglfaaD6
namespace Go.Sod
set_option linter.unusedVariables false
set_option linter.unusedSimpArgs false
set_option maxRecDepth 10000
set_option maxHeartbeats 4000000
theorem ref_walk {h : Hp} {o c : Own} {osv ocv csv ccv : Value} (hos : SlR h 7 RSvc osv o.services) (hoc : SlR h 7 RChk ocv o.checks) (hcs : SlR h 7 RSvc csv c.services) (hcc : SlR h 7 RChk ccv c.checks) (hlen : bulkO o c + 2 < maxL) : FH Go.Proofs.Try.prog 8 [.agg ⟨ownV o osv ocv⟩, .agg ⟨ownV c csv ccv⟩] h (fun r h' => SlR h' 17 RCmd r (refL4 o c o.checks.length)) := by
  refine FS.enter Go.Proofs.Try.func8 rfl rfl fun w0 => ?_
  obtain ⟨sA, sc, rfl⟩ := hos.form
  obtain ⟨cA, cc, rfl⟩ := hoc.form
  obtain ⟨sA', sc', rfl⟩ := hcs.form
  obtain ⟨cA', cc', rfl⟩ := hcc.form
  refine .seq (.text (.box (cs := [_, _, _, _, _]) rfl rfl rfl rfl fun b2 => .box (cs := [_, _, _, _, _]) rfl rfl rfl rfl fun b3 => .as_ rfl rfl (.done (.thenN ?_))))
  refine .seq (.text (.as_ rfl rfl (.done (.thenN ?_))))
  refine J.cut (ι := Value × Value) (fun i => SlR h 7 RSvc i.1 (catS c) ∧ SlR h 7 RChk i.2 (catC c)) (fun i => [(2, .pointer (some ⟨b2, 0, none⟩)), (3, .pointer (some ⟨b3, 0, none⟩)), (5, nilV)]) (fun _ => h) (fun i => [one b3 (.cells ⟨ownV c i.1 i.2⟩ 25 (0, 0)), one b2 (.cells ⟨ownV o (.slice sA o.services.length sc) (.slice cA o.checks.length cc)⟩ 25 (0, 0))]) ?_ ?_
  ·
    refine .seq (.text (.fa rfl rfl (.ld rfl rfl rfl rfl (.not rfl rfl (.done (.thenN ?_))))))
    refine .cond rfl (fun hb2 => ?_) (fun hb2 => ?_)
    ·
      refine .seq (.text (.fa rfl rfl (.stS rfl rfl rfl rfl (.done (.thenN ?_)))))
      refine .text (.fa rfl rfl (.stS rfl rfl rfl rfl (.done (.thenN ?_))))
      have e : c.there = false := by simpa using hb2
      refine J.mid (nilV, nilV) ⟨?_, ?_⟩ (.cons rfl (.cons rfl (.cons rfl (.nil _)))) rfl rfl
      · simp only [catS, e]; exact SlR.nil ..
      · simp only [catC, e]; exact SlR.nil ..
    ·
      refine .skip (.thenN ?_)
      have e : c.there = true := by simpa using hb2
      refine J.mid (_, _) ⟨?_, ?_⟩ (.cons rfl (.cons rfl (.cons rfl (.nil _)))) rfl rfl
      · simpa only [catS, e, if_true] using hcs
      · simpa only [catC, e, if_true] using hcc
  ·
    rintro ⟨sv, cv⟩ ⟨hcs, hcc⟩
    dsimp only at hcs hcc ⊢
    obtain ⟨sA', sc', rfl⟩ := hcs.form
    obtain ⟨cA', cc', rfl⟩ := hcc.form
    refine J.addE ?_
    refine J.cut (ι := Value × Hp) (fun i => SlT i.2 h i.1 17 42 RCmd (nodeR o c)) (fun i => [(2, .pointer (some ⟨b2, 0, none⟩)), (3, .pointer (some ⟨b3, 0, none⟩)), (5, i.1)]) (fun _ => h) (fun i => [i.2, one b3 (.cells ⟨ownV c (.slice sA' (catS c).length sc') (.slice cA' (catC c).length cc')⟩ 25 (0, 0)), one b2 (.cells ⟨ownV o (.slice sA o.services.length sc) (.slice cA o.checks.length cc)⟩ 25 (0, 0))]) ?_ ?_
    ·
      refine .seq (.text (.fa rfl rfl (.ld rfl rfl rfl rfl (.not rfl rfl (.mv rfl rfl (.or (d := 28) (g := 22) _ _ (take_drop 6) rfl rfl (fun hb5_4 => .guard rfl rfl rfl rfl (.fa rfl rfl (.guard rfl rfl rfl rfl (.ld rfl rfl rfl rfl (.guard rfl rfl rfl rfl (.fa rfl rfl (.guard rfl rfl rfl rfl (.ld rfl rfl rfl rfl (.guard rfl rfl rfl rfl (.cmpS rfl rfl rfl rfl (.pick rfl rfl rfl rfl ((.done (.thenN (.midB rfl))))))))))))))) (.guardNo rfl rfl rfl rfl rfl rfl (.guardNo rfl rfl rfl rfl rfl rfl (.guardNo rfl rfl rfl rfl rfl rfl (.guardNo rfl rfl rfl rfl rfl rfl (.guardNo rfl rfl rfl rfl rfl rfl (.pick rfl rfl rfl rfl ((.done (.thenN (.midB rfl)))))))))) (.done (.thenN ?_))))))))
      refine .cond rfl (fun hb5 => ?_) (fun hb5 => ?_)
      ·
        refine .text (.mv rfl rfl (.fa rfl rfl (.ld rfl rfl rfl rfl (.fa rfl rfl (.ld rfl rfl rfl rfl (.bld [_, _, _, _, _, _, _, _, _, _, _, _, _, _, _, _, _] rfl (by rfl) rfl ?_))))))
        refine .bs [_, _, _, _, _, _, _, _, _, _, _, _, _, _, _, _, _] rfl rfl rfl rfl (by decide) rfl rfl rfl fun b35 => .app1 (R := RCmd) (z := { cmd0 1 o.node with note := o.addr }) rfl (SlT.nil h 17 42 RCmd) rfl rfl rfl rfl ⟨1, nilV, nilV, rfl, SlR.nil _ _ _, SlR.nil _ _ _⟩ (by simp [maxL]) rfl rfl fun v36 m36 hm36 => .as_ rfl rfl (.done (.thenN ?_))
        refine J.dropF 1 (J.mid (v36, m36) ?_ (.cons rfl (.cons rfl (.cons rfl (.nil _)))) rfl rfl)
        show SlT m36 h v36 17 42 RCmd (nodeR o c)
        rw [nodeR, if_pos hb5]; exact hm36
      ·
        refine .skip (.thenN ?_)
        refine J.mid (nilV, Hp.emp) ?_ (.cons rfl (.cons rfl (.cons rfl (.nil _)))) rfl rfl
        show SlT Hp.emp h nilV 17 42 RCmd (nodeR o c)
        rw [nodeR, if_neg (by rw [hb5]; decide)]; exact SlT.nil ..
    ·
      rintro ⟨v5, m⟩ hm
      dsimp only at hm ⊢
      have hm : SlT m h v5 17 42 RCmd (refL1 o c 0) := by simpa only [refL1, List.take_zero, fm_nil, List.append_nil] using hm
      refine .seq (.seq (.text (.as_ rfl rfl (.done (.thenN ?_)))))
      refine .block (?_)
      refine J.loop (ι := Nat × Value × Hp) (fun i => i.1 ≤ (catC c).length ∧ SlT i.2.2 h i.2.1 17 42 RCmd (refL1 o c i.1)) (fun i => [(2, .pointer (some ⟨b2, 0, none⟩)), (3, .pointer (some ⟨b3, 0, none⟩)), (5, i.2.1), (6, .int .i64 (i.1 : Int))]) (fun _ => h) (fun i => [i.2.2, one b3 (.cells ⟨ownV c (.slice sA' (catS c).length sc') (.slice cA' (catC c).length cc')⟩ 25 (0, 0)), one b2 (.cells ⟨ownV o (.slice sA o.services.length sc) (.slice cA o.checks.length cc)⟩ 25 (0, 0))]) (fun i => (catC c).length - i.1) (0, v5, m) ⟨by simp, hm⟩ (.cons rfl (.cons rfl (.cons rfl (.cons rfl (.nil _))))) rfl rfl ?_
      rintro ⟨k, lv, ml⟩ ⟨hk0, hl⟩
      dsimp only at hk0 hl ⊢
      refine .seq (.seq (.text (.mv rfl rfl (.fa rfl rfl (.ld rfl rfl rfl rfl (.len hcc rfl rfl rfl (.cmp rfl rfl rfl rfl (.done (.thenN ?_)))))))))
      refine .cond rfl (fun hb8 => ?_) (fun hb8 => ?_)
      ·
        have hk : k < (catC c).length := by simp [cmpI] at hb8; omega
        refine .skip (.thenN ?_)
        refine .seq (.block (.seq (.draw [(0, .pure), (1, .read), (2, .pure), (3, .read), (4, .pure), (5, .pure), (6, .pure), (7, .read), (8, .grow), (9, .pure)] rfl (by kernel_rfl) (.fa rfl rfl (.ld rfl rfl rfl rfl (.fa rfl rfl (.ld rfl rfl rfl rfl (.mv rfl rfl (.ix (i := k) hcc rfl rfl rfl hk rfl (.faE rfl (hcc.ne (by omega)) rfl (.ldG (.string (catC c)[k].id) hcc hk rfl (fun vs e => e.f1) rfl rfl (?_))))))))))))
        refine .callV rfl rfl (idxC_walk hoc) rfl rfl (.cmp rfl rfl rfl rfl (.done (.thenN ?_)))
        refine .cond rfl (fun hb10 => ?_) (fun hb10 => ?_)
        ·
          refine .draw [(0, .pure), (1, .pure), (2, .read), (3, .pure), (4, .read), (5, .pure), (6, .pure), (7, .pure), (8, .read), (9, .pure), (10, .grow), (11, .mut), (12, .pure)] rfl (by kernel_rfl) (.mv rfl rfl (.fa rfl rfl (.ld rfl rfl rfl rfl (.fa rfl rfl (.ld rfl rfl rfl rfl (.mv rfl rfl (.ix (i := k) hcc rfl rfl rfl hk rfl (.faE rfl (hcc.ne (by omega)) rfl (.ldG (.string (catC c)[k].id) hcc hk rfl (fun vs e => e.f1) rfl rfl (.bld [_, _, _, _, _, _, _, _, _, _, _, _, _, _, _, _, _] rfl (by rfl) rfl ?_))))))))))
          refine .bs [_, _, _, _, _, _, _, _, _, _, _, _, _, _, _, _, _] rfl rfl rfl rfl (by decide) rfl rfl rfl fun b64 => .app1 (R := RCmd) (z := dropChk o.node (catC c)[k]) rfl hl rfl rfl rfl rfl ⟨1, nilV, nilV, rfl, SlR.nil _ _ _, SlR.nil _ _ _⟩ (by have := (refL_len o c k).2.2.2; unfold maxL at hlen ⊢; omega) rfl rfl fun va ma hma => .as_ rfl rfl (.done (.blkN (.thenN ?_)))
          refine .text (.mv rfl rfl (.inc rfl rfl (by have := hcc.len; unfold maxL at this; omega) rfl (.as_ rfl rfl (.done (.thenN ?_)))))
          refine J.dropF 1 (J.again (k + 1, va, ma) (by simp; omega) ⟨hk, ?_⟩ (.cons rfl (.cons rfl (.cons rfl (.cons rfl (.nil _))))) rfl rfl)
          show SlT _ _ _ 17 42 RCmd (refL1 o c (k + 1))
          rw [refL1_s hk, if_pos (show goneC _ _ = true from hb10)]
          exact hma
        ·
          refine .skip (.blkN (.thenN ?_))
          refine .text (.mv rfl rfl (.inc rfl rfl (by have := hcc.len; unfold maxL at this; omega) rfl (.as_ rfl rfl (.done (.thenN ?_)))))
          refine J.again (k + 1, lv, ml) (by simp; omega) ⟨hk, ?_⟩ (.cons rfl (.cons rfl (.cons rfl (.cons rfl (.nil _))))) rfl rfl
          show SlT _ _ _ 17 42 RCmd (refL1 o c (k + 1))
          rw [refL1_s hk, if_neg (by rw [show goneC _ _ = false from hb10]; decide), List.append_nil]
          exact hl
      ·
        have hk : k = (catC c).length := by simp [cmpI] at hb8; omega
        subst hk
        have hl : SlT ml h lv 17 42 RCmd (refL2 o c 0) := by simpa only [refL2, List.take_zero, fm_nil, List.append_nil] using hl
        clear hm
        revert hl; generalize lv = v5; generalize ml = m; intro hm
        refine .exit (.thenE (.thenE (.blkHit (.thenN ?_))))
        refine .seq (.seq (.text (.as_ rfl rfl (.done (.thenN ?_)))))
        refine .block (?_)
        refine J.loop (ι := Nat × Value × Hp) (fun i => i.1 ≤ (catS c).length ∧ SlT i.2.2 h i.2.1 17 42 RCmd (refL2 o c i.1)) (fun i => [(2, .pointer (some ⟨b2, 0, none⟩)), (3, .pointer (some ⟨b3, 0, none⟩)), (5, i.2.1), (7, .int .i64 (i.1 : Int))]) (fun _ => h) (fun i => [i.2.2, one b3 (.cells ⟨ownV c (.slice sA' (catS c).length sc') (.slice cA' (catC c).length cc')⟩ 25 (0, 0)), one b2 (.cells ⟨ownV o (.slice sA o.services.length sc) (.slice cA o.checks.length cc)⟩ 25 (0, 0))]) (fun i => (catS c).length - i.1) (0, v5, m) ⟨by simp, hm⟩ (.cons rfl (.cons rfl (.cons rfl (.cons rfl (.nil _))))) rfl rfl ?_
        rintro ⟨k, lv, ml⟩ ⟨hk0, hl⟩
        dsimp only at hk0 hl ⊢
        refine .seq (.seq (.text (.mv rfl rfl (.fa rfl rfl (.ld rfl rfl rfl rfl (.len hcs rfl rfl rfl (.cmp rfl rfl rfl rfl (.done (.thenN ?_)))))))))
        refine .cond rfl (fun hb13 => ?_) (fun hb13 => ?_)
        ·
          have hk : k < (catS c).length := by simp [cmpI] at hb13; omega
          refine .skip (.thenN ?_)
          refine .seq (.block (.seq (.draw [(0, .pure), (1, .read), (2, .pure), (3, .read), (4, .pure), (5, .pure), (6, .pure), (7, .read), (8, .grow), (9, .pure)] rfl (by kernel_rfl) (.fa rfl rfl (.ld rfl rfl rfl rfl (.fa rfl rfl (.ld rfl rfl rfl rfl (.mv rfl rfl (.ix (i := k) hcs rfl rfl rfl hk rfl (.faE rfl (hcs.ne (by omega)) rfl (.ldG (.string (catS c)[k].id) hcs hk rfl (fun vs e => e.f1) rfl rfl (?_))))))))))))
          refine .callV rfl rfl (idxS_walk hos) rfl rfl (.cmp rfl rfl rfl rfl (.done (.thenN ?_)))
          refine .cond rfl (fun hb15 => ?_) (fun hb15 => ?_)
          ·
            refine .draw [(0, .pure), (1, .pure), (2, .read), (3, .pure), (4, .read), (5, .pure), (6, .pure), (7, .pure), (8, .read), (9, .pure), (10, .grow), (11, .mut), (12, .pure)] rfl (by kernel_rfl) (.mv rfl rfl (.fa rfl rfl (.ld rfl rfl rfl rfl (.fa rfl rfl (.ld rfl rfl rfl rfl (.mv rfl rfl (.ix (i := k) hcs rfl rfl rfl hk rfl (.faE rfl (hcs.ne (by omega)) rfl (.ldG (.string (catS c)[k].id) hcs hk rfl (fun vs e => e.f1) rfl rfl (.bld [_, _, _, _, _, _, _, _, _, _, _, _, _, _, _, _, _] rfl (by rfl) rfl ?_))))))))))
            refine .bs [_, _, _, _, _, _, _, _, _, _, _, _, _, _, _, _, _] rfl rfl rfl rfl (by decide) rfl rfl rfl fun b93 => .app1 (R := RCmd) (z := dropSvc o.node (catS c)[k]) rfl hl rfl rfl rfl rfl ⟨1, nilV, nilV, rfl, SlR.nil _ _ _, SlR.nil _ _ _⟩ (by have := (refL_len o c k).2.2.1; unfold maxL at hlen ⊢; omega) rfl rfl fun va ma hma => .as_ rfl rfl (.done (.blkN (.thenN ?_)))
            refine .text (.mv rfl rfl (.inc rfl rfl (by have := hcs.len; unfold maxL at this; omega) rfl (.as_ rfl rfl (.done (.thenN ?_)))))
            refine J.dropF 1 (J.again (k + 1, va, ma) (by simp; omega) ⟨hk, ?_⟩ (.cons rfl (.cons rfl (.cons rfl (.cons rfl (.nil _))))) rfl rfl)
            show SlT _ _ _ 17 42 RCmd (refL2 o c (k + 1))
            rw [refL2_s hk, if_pos (show goneS _ _ = true from hb15)]
            exact hma
          ·
            refine .skip (.blkN (.thenN ?_))
            refine .text (.mv rfl rfl (.inc rfl rfl (by have := hcs.len; unfold maxL at this; omega) rfl (.as_ rfl rfl (.done (.thenN ?_)))))
            refine J.again (k + 1, lv, ml) (by simp; omega) ⟨hk, ?_⟩ (.cons rfl (.cons rfl (.cons rfl (.cons rfl (.nil _))))) rfl rfl
            show SlT _ _ _ 17 42 RCmd (refL2 o c (k + 1))
            rw [refL2_s hk, if_neg (by rw [show goneS _ _ = false from hb15]; decide), List.append_nil]
            exact hl
        ·
          have hk : k = (catS c).length := by simp [cmpI] at hb13; omega
          subst hk
          have hl : SlT ml h lv 17 42 RCmd (refL3 o c 0) := by simpa only [refL3, List.take_zero, fm_nil, List.append_nil] using hl
          clear hm
          revert hl; generalize lv = v5; generalize ml = m; intro hm
          refine .exit (.thenE (.thenE (.blkHit (.thenN ?_))))
          refine .seq (.seq (.text (.as_ rfl rfl (.done (.thenN ?_)))))
          refine .block (?_)
          refine J.loop (ι := Nat × Value × Hp) (fun i => i.1 ≤ o.services.length ∧ SlT i.2.2 h i.2.1 17 42 RCmd (refL3 o c i.1)) (fun i => [(2, .pointer (some ⟨b2, 0, none⟩)), (3, .pointer (some ⟨b3, 0, none⟩)), (5, i.2.1), (8, .int .i64 (i.1 : Int))]) (fun _ => h) (fun i => [i.2.2, one b3 (.cells ⟨ownV c (.slice sA' (catS c).length sc') (.slice cA' (catC c).length cc')⟩ 25 (0, 0)), one b2 (.cells ⟨ownV o (.slice sA o.services.length sc) (.slice cA o.checks.length cc)⟩ 25 (0, 0))]) (fun i => o.services.length - i.1) (0, v5, m) ⟨by simp, hm⟩ (.cons rfl (.cons rfl (.cons rfl (.cons rfl (.nil _))))) rfl rfl ?_
          rintro ⟨k, lv, ml⟩ ⟨hk0, hl⟩
          dsimp only at hk0 hl ⊢
          refine .seq (.seq (.text (.mv rfl rfl (.fa rfl rfl (.ld rfl rfl rfl rfl (.len hos rfl rfl rfl (.cmp rfl rfl rfl rfl (.done (.thenN ?_)))))))))
          refine .cond rfl (fun hb18 => ?_) (fun hb18 => ?_)
          ·
            have hk : k < o.services.length := by simp [cmpI] at hb18; omega
            refine .skip (.thenN ?_)
            refine .seq (.block (.seq (.text (.fa rfl rfl (.ld rfl rfl rfl rfl (.mv rfl rfl (.ix (i := k) hos rfl rfl rfl hk rfl (.ldE hos hk rfl rfl rfl fun vs hvs => ?_))))))))
            obtain ⟨tv, rfl, htv⟩ := hvs
            obtain ⟨A, tc, rfl⟩ := htv.form
            refine .alloc (cs := [_, _, _, _, _, _, _]) rfl rfl rfl fun b9 => .stW rfl rfl rfl rfl rfl rfl (.done (.thenN ?_))
            refine .seq (.text (.fa rfl rfl (.ld rfl rfl rfl rfl (.fa rfl rfl (.ld rfl rfl rfl rfl (?_))))))
            refine .callV rfl rfl (idxS_walk hcs) rfl rfl (.as_ rfl rfl (.done (.thenN ?_)))
            refine .seq (.seq (.draw [(0, .pure), (1, .pure), (2, .pure), (3, .pure), (4, .read), (5, .pure), (6, .pure), (7, .pure), (8, .read), (9, .pure), (10, .read), (11, .pure), (12, .pure), (13, .pure), (14, .pure), (15, .read), (16, .pure), (17, .pure), (18, .pure), (19, .read), (20, .pure), (21, .read), (22, .pure), (23, .pure), (24, .pure), (25, .pure), (26, .read), (27, .pure), (28, .pure), (29, .pure), (30, .read), (31, .pure), (32, .read), (33, .grow), (34, .pure)] rfl (by kernel_rfl) (.mv rfl rfl (.cmp rfl rfl rfl rfl (.mv rfl rfl (.and (d := 124) (g := 114) _ _ (take_drop 10) rfl rfl (fun hb22_3 => .guard rfl rfl rfl rfl (.fa rfl rfl (.guard rfl rfl rfl rfl (.ld rfl rfl rfl rfl (.guard rfl rfl rfl rfl (.mv rfl rfl (.guard rfl rfl rfl rfl (.ix (i := (idxB (idS o.services[k].id) (catS c)).toNat) hcs rfl rfl (idx_nat (p := idS o.services[k].id) (xs := (catS c)) hb22_3) (idx_lt (p := idS o.services[k].id) (xs := (catS c)) hb22_3) rfl (.guard rfl rfl rfl rfl (.faE rfl (hcs.ne (Nat.lt_of_le_of_lt (Nat.zero_le _) (idx_lt (p := idS o.services[k].id) (xs := (catS c)) hb22_3))) rfl (.guard rfl rfl rfl rfl (.ldG (.string (wasS (catS c) o.services[k].id).name) hcs (i := (idxB (idS o.services[k].id) (catS c)).toNat) (idx_lt (p := idS o.services[k].id) (xs := (catS c)) hb22_3) rfl (fun vs e => by rw [idx_get (d := svc0) hb22_3] at e; exact e.f2) rfl rfl (.guard rfl rfl rfl rfl (.fa rfl rfl (.guard rfl rfl rfl rfl (.ld rfl rfl rfl rfl (.guard rfl rfl rfl rfl (.cmpS rfl rfl rfl rfl (.pick rfl rfl rfl rfl ((.done (.thenN (.midB rfl))))))))))))))))))))))) (.guardNo rfl rfl rfl rfl rfl rfl (.guardNo rfl rfl rfl rfl rfl rfl (.guardNo rfl rfl rfl rfl rfl rfl (.guardNo rfl rfl rfl rfl rfl rfl (.guardNo rfl rfl rfl rfl rfl rfl (.guardNo rfl rfl rfl rfl rfl rfl (.guardNo rfl rfl rfl rfl rfl rfl (.guardNo rfl rfl rfl rfl rfl rfl (.guardNo rfl rfl rfl rfl rfl rfl (.pick rfl rfl rfl rfl ((.done (.thenN (.midB rfl)))))))))))))) (.mv rfl rfl (.and (d := 135) (g := 125) _ _ (take_drop 10) rfl rfl (fun hb22_14 => .guard rfl rfl rfl rfl (.fa rfl rfl (.guard rfl rfl rfl rfl (.ld rfl rfl rfl rfl (.guard rfl rfl rfl rfl (.mv rfl rfl (.guard rfl rfl rfl rfl (.ix (i := (idxB (idS o.services[k].id) (catS c)).toNat) hcs rfl rfl (idx_nat (p := idS o.services[k].id) (xs := (catS c)) (by simp only [Bool.and_eq_true] at hb22_14; exact hb22_14.1)) (idx_lt (p := idS o.services[k].id) (xs := (catS c)) (by simp only [Bool.and_eq_true] at hb22_14; exact hb22_14.1)) rfl (.guard rfl rfl rfl rfl (.faE rfl (hcs.ne (Nat.lt_of_le_of_lt (Nat.zero_le _) (idx_lt (p := idS o.services[k].id) (xs := (catS c)) (by simp only [Bool.and_eq_true] at hb22_14; exact hb22_14.1)))) rfl (.guard rfl rfl rfl rfl (.ldG (.int .i64 (wasS (catS c) o.services[k].id).port) hcs (i := (idxB (idS o.services[k].id) (catS c)).toNat) (idx_lt (p := idS o.services[k].id) (xs := (catS c)) (by simp only [Bool.and_eq_true] at hb22_14; exact hb22_14.1)) rfl (fun vs e => by rw [idx_get (d := svc0) (by simp only [Bool.and_eq_true] at hb22_14; exact hb22_14.1)] at e; exact e.f4) rfl rfl (.guard rfl rfl rfl rfl (.fa rfl rfl (.guard rfl rfl rfl rfl (.ld rfl rfl rfl rfl (.guard rfl rfl rfl rfl (.cmp rfl rfl rfl rfl (.pick rfl rfl rfl rfl ((.done (.thenN (.midB rfl))))))))))))))))))))))) (.guardNo rfl rfl rfl rfl rfl rfl (.guardNo rfl rfl rfl rfl rfl rfl (.guardNo rfl rfl rfl rfl rfl rfl (.guardNo rfl rfl rfl rfl rfl rfl (.guardNo rfl rfl rfl rfl rfl rfl (.guardNo rfl rfl rfl rfl rfl rfl (.guardNo rfl rfl rfl rfl rfl rfl (.guardNo rfl rfl rfl rfl rfl rfl (.guardNo rfl rfl rfl rfl rfl rfl (.pick rfl rfl rfl rfl ((.done (.thenN (.midB rfl)))))))))))))) (.mv rfl rfl (.and (d := 146) (g := 136) _ _ (take_drop 10) rfl rfl (fun hb22_25 => .guard rfl rfl rfl rfl (.fa rfl rfl (.guard rfl rfl rfl rfl (.ld rfl rfl rfl rfl (.guard rfl rfl rfl rfl (.mv rfl rfl (.guard rfl rfl rfl rfl (.ix (i := (idxB (idS o.services[k].id) (catS c)).toNat) hcs rfl rfl (idx_nat (p := idS o.services[k].id) (xs := (catS c)) (by simp only [Bool.and_eq_true] at hb22_25; exact hb22_25.1.1)) (idx_lt (p := idS o.services[k].id) (xs := (catS c)) (by simp only [Bool.and_eq_true] at hb22_25; exact hb22_25.1.1)) rfl (.guard rfl rfl rfl rfl (.faE rfl (hcs.ne (Nat.lt_of_le_of_lt (Nat.zero_le _) (idx_lt (p := idS o.services[k].id) (xs := (catS c)) (by simp only [Bool.and_eq_true] at hb22_25; exact hb22_25.1.1)))) rfl (.guard rfl rfl rfl rfl (.ldX hcs (i := (idxB (idS o.services[k].id) (catS c)).toNat) (idx_lt (p := idS o.services[k].id) (xs := (catS c)) (by simp only [Bool.and_eq_true] at hb22_25; exact hb22_25.1.1)) rfl rfl rfl rfl fun u142 hu142 => .guard rfl rfl rfl rfl (.fa rfl rfl (.guard rfl rfl rfl rfl (.ld rfl rfl rfl rfl (.guard rfl rfl rfl rfl (.callV rfl rfl (same01 (xs := (wasS (catS c) o.services[k].id).tags) (by have q := RSvc.tags hu142; rw [idx_get (d := svc0) (by simp only [Bool.and_eq_true] at hb22_25; exact hb22_25.1.1)] at q; exact q) htv) rfl rfl (.pick rfl rfl rfl rfl ((.done (.thenN (.midB rfl)))))))))))))))))))))) (.guardNo rfl rfl rfl rfl rfl rfl (.guardNo rfl rfl rfl rfl rfl rfl (.guardNo rfl rfl rfl rfl rfl rfl (.guardNo rfl rfl rfl rfl rfl rfl (.guardNo rfl rfl rfl rfl rfl rfl (.guardNo rfl rfl rfl rfl rfl rfl (.guardNo rfl rfl rfl rfl rfl rfl (.guardNo rfl rfl rfl rfl rfl rfl (.guardNo rfl rfl rfl rfl rfl rfl (.pick rfl rfl rfl rfl ((.done (.thenN (.midB rfl)))))))))))))) (.done (.thenN ?_))))))))))))
            refine .cond rfl (fun hb22 => ?_) (fun hb22 => ?_)
            ·
              refine .exit (.thenE (.blkHit (.thenN ?_)))
              refine .text (.mv rfl rfl (.inc rfl rfl (by have := hos.len; unfold maxL at this; omega) rfl (.as_ rfl rfl (.done (.thenN ?_)))))
              refine J.dropF 1 (J.again (k + 1, lv, ml) (by simp; omega) ⟨hk, ?_⟩ (.cons rfl (.cons rfl (.cons rfl (.cons rfl (.nil _))))) rfl rfl)
              show SlT _ _ _ 17 42 RCmd (refL3 o c (k + 1))
              rw [refL3_s hk, if_neg (by rw [show keepS _ _ = true from hb22]; decide), List.append_nil]
              exact hl
            ·
              refine .skip (.thenN ?_)
              refine .text (.mv rfl rfl (.fa rfl rfl (.ld rfl rfl rfl rfl (.fa rfl rfl (.ld rfl rfl rfl rfl (.fa rfl rfl (.ld rfl rfl rfl rfl (.fa rfl rfl (.ld rfl rfl rfl rfl (.fa rfl rfl (.ld rfl rfl rfl rfl (.bld [_, _, _, _, _, _, _, _, _, _, _, _, _, _, _, _, _] rfl (by rfl) rfl ?_))))))))))))
              refine .bs [_, _, _, _, _, _, _, _, _, _, _, _, _, _, _, _, _] rfl rfl rfl rfl (by decide) rfl rfl rfl fun b159 => .app1 (R := RCmd) (z := laySvc o.node o.services[k]) rfl hl rfl rfl rfl rfl (RCmd.flat (c := laySvc o.node o.services[k]) htv rfl) (by have := (refL_len o c k).2.1; unfold maxL at hlen ⊢; omega) rfl rfl fun va ma hma => .as_ rfl rfl (.done (.blkN (.thenN ?_)))
              refine .text (.mv rfl rfl (.inc rfl rfl (by have := hos.len; unfold maxL at this; omega) rfl (.as_ rfl rfl (.done (.thenN ?_)))))
              refine J.dropF 2 (J.again (k + 1, va, ma) (by simp; omega) ⟨hk, ?_⟩ (.cons rfl (.cons rfl (.cons rfl (.cons rfl (.nil _))))) rfl rfl)
              show SlT _ _ _ 17 42 RCmd (refL3 o c (k + 1))
              rw [refL3_s hk, if_pos (by rw [show keepS _ _ = false from hb22]; rfl)]
              exact hma
          ·
            have hk : k = o.services.length := by simp [cmpI] at hb18; omega
            subst hk
            have hl : SlT ml h lv 17 42 RCmd (refL4 o c 0) := by simpa only [refL4, List.take_zero, fm_nil, List.append_nil] using hl
            clear hm
            revert hl; generalize lv = v5; generalize ml = m; intro hm
            refine .exit (.thenE (.thenE (.blkHit (.thenN ?_))))
            refine .seq (.seq (.text (.as_ rfl rfl (.done (.thenN ?_)))))
            refine .block (?_)
            refine J.loop (ι := Nat × Value × Hp) (fun i => i.1 ≤ o.checks.length ∧ SlT i.2.2 h i.2.1 17 42 RCmd (refL4 o c i.1)) (fun i => [(2, .pointer (some ⟨b2, 0, none⟩)), (3, .pointer (some ⟨b3, 0, none⟩)), (5, i.2.1), (11, .int .i64 (i.1 : Int))]) (fun _ => h) (fun i => [i.2.2, one b3 (.cells ⟨ownV c (.slice sA' (catS c).length sc') (.slice cA' (catC c).length cc')⟩ 25 (0, 0)), one b2 (.cells ⟨ownV o (.slice sA o.services.length sc) (.slice cA o.checks.length cc)⟩ 25 (0, 0))]) (fun i => o.checks.length - i.1) (0, v5, m) ⟨by simp, hm⟩ (.cons rfl (.cons rfl (.cons rfl (.cons rfl (.nil _))))) rfl rfl ?_
            rintro ⟨k, lv, ml⟩ ⟨hk0, hl⟩
            dsimp only at hk0 hl ⊢
            refine .seq (.seq (.text (.mv rfl rfl (.fa rfl rfl (.ld rfl rfl rfl rfl (.len hoc rfl rfl rfl (.cmp rfl rfl rfl rfl (.done (.thenN ?_)))))))))
            refine .cond rfl (fun hb25 => ?_) (fun hb25 => ?_)
            ·
              have hk : k < o.checks.length := by simp [cmpI] at hb25; omega
              refine .skip (.thenN ?_)
              refine .seq (.block (.seq (.text (.fa rfl rfl (.ld rfl rfl rfl rfl (.mv rfl rfl (.ix (i := k) hoc rfl rfl rfl hk rfl (.ldE hoc hk rfl rfl rfl fun vs hvs => ?_))))))))
              obtain rfl := hvs
              refine .alloc (cs := [_, _, _, _, _, _, _]) rfl rfl rfl fun b12 => .stW rfl rfl rfl rfl rfl rfl (.done (.thenN ?_))
              refine .seq (.text (.fa rfl rfl (.ld rfl rfl rfl rfl (.fa rfl rfl (.ld rfl rfl rfl rfl (?_))))))
              refine .callV rfl rfl (idxC_walk hcc) rfl rfl (.as_ rfl rfl (.done (.thenN ?_)))
              refine .seq (.seq (.draw [(0, .pure), (1, .pure), (2, .pure), (3, .pure), (4, .read), (5, .pure), (6, .pure), (7, .pure), (8, .read), (9, .pure), (10, .read), (11, .pure), (12, .pure), (13, .pure), (14, .pure), (15, .read), (16, .pure), (17, .pure), (18, .pure), (19, .read), (20, .pure), (21, .read), (22, .pure), (23, .pure), (24, .pure), (25, .pure), (26, .read), (27, .pure), (28, .pure), (29, .pure), (30, .read), (31, .pure), (32, .read), (33, .pure), (34, .pure)] rfl (by kernel_rfl) (.mv rfl rfl (.cmp rfl rfl rfl rfl (.mv rfl rfl (.and (d := 190) (g := 180) _ _ (take_drop 10) rfl rfl (fun hb29_3 => .guard rfl rfl rfl rfl (.fa rfl rfl (.guard rfl rfl rfl rfl (.ld rfl rfl rfl rfl (.guard rfl rfl rfl rfl (.mv rfl rfl (.guard rfl rfl rfl rfl (.ix (i := (idxB (idC o.checks[k].id) (catC c)).toNat) hcc rfl rfl (idx_nat (p := idC o.checks[k].id) (xs := (catC c)) hb29_3) (idx_lt (p := idC o.checks[k].id) (xs := (catC c)) hb29_3) rfl (.guard rfl rfl rfl rfl (.faE rfl (hcc.ne (Nat.lt_of_le_of_lt (Nat.zero_le _) (idx_lt (p := idC o.checks[k].id) (xs := (catC c)) hb29_3))) rfl (.guard rfl rfl rfl rfl (.ldG (.string (wasC (catC c) o.checks[k].id).service) hcc (i := (idxB (idC o.checks[k].id) (catC c)).toNat) (idx_lt (p := idC o.checks[k].id) (xs := (catC c)) hb29_3) rfl (fun vs e => by rw [idx_get (d := chk0) hb29_3] at e; exact e.f2) rfl rfl (.guard rfl rfl rfl rfl (.fa rfl rfl (.guard rfl rfl rfl rfl (.ld rfl rfl rfl rfl (.guard rfl rfl rfl rfl (.cmpS rfl rfl rfl rfl (.pick rfl rfl rfl rfl ((.done (.thenN (.midB rfl))))))))))))))))))))))) (.guardNo rfl rfl rfl rfl rfl rfl (.guardNo rfl rfl rfl rfl rfl rfl (.guardNo rfl rfl rfl rfl rfl rfl (.guardNo rfl rfl rfl rfl rfl rfl (.guardNo rfl rfl rfl rfl rfl rfl (.guardNo rfl rfl rfl rfl rfl rfl (.guardNo rfl rfl rfl rfl rfl rfl (.guardNo rfl rfl rfl rfl rfl rfl (.guardNo rfl rfl rfl rfl rfl rfl (.pick rfl rfl rfl rfl ((.done (.thenN (.midB rfl)))))))))))))) (.mv rfl rfl (.and (d := 201) (g := 191) _ _ (take_drop 10) rfl rfl (fun hb29_14 => .guard rfl rfl rfl rfl (.fa rfl rfl (.guard rfl rfl rfl rfl (.ld rfl rfl rfl rfl (.guard rfl rfl rfl rfl (.mv rfl rfl (.guard rfl rfl rfl rfl (.ix (i := (idxB (idC o.checks[k].id) (catC c)).toNat) hcc rfl rfl (idx_nat (p := idC o.checks[k].id) (xs := (catC c)) (by simp only [Bool.and_eq_true] at hb29_14; exact hb29_14.1)) (idx_lt (p := idC o.checks[k].id) (xs := (catC c)) (by simp only [Bool.and_eq_true] at hb29_14; exact hb29_14.1)) rfl (.guard rfl rfl rfl rfl (.faE rfl (hcc.ne (Nat.lt_of_le_of_lt (Nat.zero_le _) (idx_lt (p := idC o.checks[k].id) (xs := (catC c)) (by simp only [Bool.and_eq_true] at hb29_14; exact hb29_14.1)))) rfl (.guard rfl rfl rfl rfl (.ldG (.string (wasC (catC c) o.checks[k].id).note) hcc (i := (idxB (idC o.checks[k].id) (catC c)).toNat) (idx_lt (p := idC o.checks[k].id) (xs := (catC c)) (by simp only [Bool.and_eq_true] at hb29_14; exact hb29_14.1)) rfl (fun vs e => by rw [idx_get (d := chk0) (by simp only [Bool.and_eq_true] at hb29_14; exact hb29_14.1)] at e; exact e.f3) rfl rfl (.guard rfl rfl rfl rfl (.fa rfl rfl (.guard rfl rfl rfl rfl (.ld rfl rfl rfl rfl (.guard rfl rfl rfl rfl (.cmpS rfl rfl rfl rfl (.pick rfl rfl rfl rfl ((.done (.thenN (.midB rfl))))))))))))))))))))))) (.guardNo rfl rfl rfl rfl rfl rfl (.guardNo rfl rfl rfl rfl rfl rfl (.guardNo rfl rfl rfl rfl rfl rfl (.guardNo rfl rfl rfl rfl rfl rfl (.guardNo rfl rfl rfl rfl rfl rfl (.guardNo rfl rfl rfl rfl rfl rfl (.guardNo rfl rfl rfl rfl rfl rfl (.guardNo rfl rfl rfl rfl rfl rfl (.guardNo rfl rfl rfl rfl rfl rfl (.pick rfl rfl rfl rfl ((.done (.thenN (.midB rfl)))))))))))))) (.mv rfl rfl (.and (d := 212) (g := 202) _ _ (take_drop 10) rfl rfl (fun hb29_25 => .guard rfl rfl rfl rfl (.fa rfl rfl (.guard rfl rfl rfl rfl (.ld rfl rfl rfl rfl (.guard rfl rfl rfl rfl (.mv rfl rfl (.guard rfl rfl rfl rfl (.ix (i := (idxB (idC o.checks[k].id) (catC c)).toNat) hcc rfl rfl (idx_nat (p := idC o.checks[k].id) (xs := (catC c)) (by simp only [Bool.and_eq_true] at hb29_25; exact hb29_25.1.1)) (idx_lt (p := idC o.checks[k].id) (xs := (catC c)) (by simp only [Bool.and_eq_true] at hb29_25; exact hb29_25.1.1)) rfl (.guard rfl rfl rfl rfl (.faE rfl (hcc.ne (Nat.lt_of_le_of_lt (Nat.zero_le _) (idx_lt (p := idC o.checks[k].id) (xs := (catC c)) (by simp only [Bool.and_eq_true] at hb29_25; exact hb29_25.1.1)))) rfl (.guard rfl rfl rfl rfl (.ldG (.int .i64 (wasC (catC c) o.checks[k].id).status) hcc (i := (idxB (idC o.checks[k].id) (catC c)).toNat) (idx_lt (p := idC o.checks[k].id) (xs := (catC c)) (by simp only [Bool.and_eq_true] at hb29_25; exact hb29_25.1.1)) rfl (fun vs e => by rw [idx_get (d := chk0) (by simp only [Bool.and_eq_true] at hb29_25; exact hb29_25.1.1)] at e; exact e.f4) rfl rfl (.guard rfl rfl rfl rfl (.fa rfl rfl (.guard rfl rfl rfl rfl (.ld rfl rfl rfl rfl (.guard rfl rfl rfl rfl (.cmp rfl rfl rfl rfl (.pick rfl rfl rfl rfl ((.done (.thenN (.midB rfl))))))))))))))))))))))) (.guardNo rfl rfl rfl rfl rfl rfl (.guardNo rfl rfl rfl rfl rfl rfl (.guardNo rfl rfl rfl rfl rfl rfl (.guardNo rfl rfl rfl rfl rfl rfl (.guardNo rfl rfl rfl rfl rfl rfl (.guardNo rfl rfl rfl rfl rfl rfl (.guardNo rfl rfl rfl rfl rfl rfl (.guardNo rfl rfl rfl rfl rfl rfl (.guardNo rfl rfl rfl rfl rfl rfl (.pick rfl rfl rfl rfl ((.done (.thenN (.midB rfl)))))))))))))) (.done (.thenN ?_))))))))))))
              refine .cond rfl (fun hb29 => ?_) (fun hb29 => ?_)
              ·
                refine .exit (.thenE (.blkHit (.thenN ?_)))
                refine .text (.mv rfl rfl (.inc rfl rfl (by have := hoc.len; unfold maxL at this; omega) rfl (.as_ rfl rfl (.done (.thenN ?_)))))
                refine J.dropF 1 (J.again (k + 1, lv, ml) (by simp; omega) ⟨hk, ?_⟩ (.cons rfl (.cons rfl (.cons rfl (.cons rfl (.nil _))))) rfl rfl)
                show SlT _ _ _ 17 42 RCmd (refL4 o c (k + 1))
                rw [refL4_s hk, if_neg (by rw [show keepC _ _ = true from hb29]; decide), List.append_nil]
                exact hl
              ·
                refine .skip (.thenN ?_)
                refine .text (.mv rfl rfl (.fa rfl rfl (.ld rfl rfl rfl rfl (.fa rfl rfl (.ld rfl rfl rfl rfl (.fa rfl rfl (.ld rfl rfl rfl rfl (.fa rfl rfl (.ld rfl rfl rfl rfl (.fa rfl rfl (.ld rfl rfl rfl rfl (.bld [_, _, _, _, _, _, _, _, _, _, _, _, _, _, _, _, _] rfl (by rfl) rfl ?_))))))))))))
                refine .bs [_, _, _, _, _, _, _, _, _, _, _, _, _, _, _, _, _] rfl rfl rfl rfl (by decide) rfl rfl rfl fun b225 => .app1 (R := RCmd) (z := layChk o.node o.checks[k]) rfl hl rfl rfl rfl rfl (RCmd.flat (c := layChk o.node o.checks[k]) (SlR.nil _ _ _) rfl) (by have := (refL_len o c k).1; unfold maxL at hlen ⊢; omega) rfl rfl fun va ma hma => .as_ rfl rfl (.done (.blkN (.thenN ?_)))
                refine .text (.mv rfl rfl (.inc rfl rfl (by have := hoc.len; unfold maxL at this; omega) rfl (.as_ rfl rfl (.done (.thenN ?_)))))
                refine J.dropF 2 (J.again (k + 1, va, ma) (by simp; omega) ⟨hk, ?_⟩ (.cons rfl (.cons rfl (.cons rfl (.cons rfl (.nil _))))) rfl rfl)
                show SlT _ _ _ 17 42 RCmd (refL4 o c (k + 1))
                rw [refL4_s hk, if_pos (by rw [show keepC _ _ = false from hb29]; rfl)]
                exact hma
            ·
              have hk : k = o.checks.length := by simp [cmpI] at hb25; omega
              subst hk
              refine .exit (.thenE (.thenE (.blkHit (.thenN ?_))))
              refine .seq (.text (.mv rfl rfl (.as_ rfl rfl (.done (.thenN ?_)))))
              refine .ret ?_
              refine J.frz hl RCmd.mono fun h' hl' hs => J.retH rfl hs
end Go.Sod
