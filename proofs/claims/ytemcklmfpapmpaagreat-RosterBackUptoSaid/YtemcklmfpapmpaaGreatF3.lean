/-
  The document's roster: Service, Check, walked. Conditions: none.
-/
import Derived.Test.YtemcklmfpapmpaaGreatF2
namespace Go.Sod
set_option linter.unusedVariables false
set_option linter.unusedSimpArgs false
set_option maxRecDepth 10000
set_option maxHeartbeats 4000000
theorem rfsvc_walk {wb : Nat} {h m : Hp} {W : Rrf} {ix : Int} {s : Svc} {tv : Value} (ht : Rb m h wb W) (hw : RfWf W) (hts : SlR h 1 RS tv s.tags) : FM Go.Proofs.Tryz.prog 30 [.pointer (some ⟨wb, 0, none⟩), .agg ⟨svcV s tv⟩, .int .u64 ix] h m (fun v h' m' => v = .int .i64 (rfSvcE W s) ∧ Rb m' h' wb (rfSvcW W s ix)) := by
  refine FS.enter Go.Proofs.Tryz.func30 rfl rfl fun w0 => ?_
  obtain ⟨nv, sv, cv, rfl, hn, hs, hc⟩ := ht
  obtain ⟨nA, nc, rfl⟩ := hn.form
  obtain ⟨sA, sc, rfl⟩ := hs.form
  obtain ⟨cA, cc, rfl⟩ := hc.form
  obtain ⟨tA, tc, rfl⟩ := hts.form
  refine .seq (.text (.box (cs := [_, _, _, _, _, _, _]) rfl rfl rfl rfl fun b4 => .as_ rfl rfl (.done (.thenN ?_))))
  refine .seq (.seq (.text (.mv rfl rfl (.ldW rfl rfl rfl rfl (?_)))))
  refine .callR rfl rfl (rfws_walk (W := W) hn hs hts) rfl rfl (.as_ rfl rfl (.done (.thenN ?_)))
  refine .seq (.text (.mv rfl rfl (.cmp rfl rfl rfl rfl (.done (.thenN ?_)))))
  refine .cond rfl (fun hb2 => ?_) (fun hb2 => ?_)
  ·
    have he : ¬ rfErrS W s = 0 := by simpa using hb2
    refine .seq (.text (.mv rfl rfl (.as_ rfl rfl (.done (.thenN ?_)))))
    refine .ret (.thenR ?_)
    refine J.dropF 1 ?_
    exact J.retTmp rfl (List.Sublist.refl _) ⟨_, rfl, by rw [rfSvcE, if_neg he]; rfl, by rw [rfSvcW, if_neg he]; exact ⟨_, _, _, rfl, hn, hs, hc⟩⟩
  ·
    have he : rfErrS W s = 0 := by simpa using hb2
    unfold rfV
    refine .skip (.thenN ?_)
    refine .seq (.seq (.draw [(0, .pure), (1, .pure), (2, .read), (3, .pure), (4, .read), (5, .grow), (6, .pure), (7, .pure), (8, .pure), (9, .pure), (10, .pure), (11, .read), (12, .pure), (13, .pure), (14, .pure), (15, .pure), (16, .read), (17, .pure), (18, .pure)] rfl (by kernel_rfl) (.mv rfl rfl (.fa rfl rfl (.ld rfl rfl rfl rfl (.fa rfl rfl (.ld rfl rfl rfl rfl (?_))))))))
    refine .callR rfl rfl (rfhas_walk (W := W) hn hs) rfl rfl (.not rfl rfl (.mv rfl rfl (.and (d := 36) (g := 25) _ _ (take_drop 11) rfl rfl (fun hb4_8 => .guard rfl rfl rfl rfl (.mv rfl rfl (.guard rfl rfl rfl rfl (.nilOk rfl rfl (.guard rfl rfl rfl rfl (.fa rfl rfl (.guard rfl rfl rfl rfl (.ld rfl rfl rfl rfl (.guard rfl rfl rfl rfl (.len hs rfl rfl rfl (.guard rfl rfl rfl rfl (.mv rfl rfl (.guard rfl rfl rfl rfl (.nilOk rfl rfl (.guard rfl rfl rfl rfl (.fa rfl rfl (.guard rfl rfl rfl rfl (.ld rfl rfl rfl rfl (.guard rfl rfl rfl rfl (.cmp rfl rfl rfl rfl (.pick rfl rfl rfl rfl ((.done (.thenN (.midB rfl))))))))))))))))))))))))) (.guardNo rfl rfl rfl rfl rfl rfl (.guardNo rfl rfl rfl rfl rfl rfl (.guardNo rfl rfl rfl rfl rfl rfl (.guardNo rfl rfl rfl rfl rfl rfl (.guardNo rfl rfl rfl rfl rfl rfl (.guardNo rfl rfl rfl rfl rfl rfl (.guardNo rfl rfl rfl rfl rfl rfl (.guardNo rfl rfl rfl rfl rfl rfl (.guardNo rfl rfl rfl rfl rfl rfl (.guardNo rfl rfl rfl rfl rfl rfl (.pick rfl rfl rfl rfl ((.done (.thenN (.midB rfl))))))))))))))) (.done (.thenN ?_)))))
    refine .cond rfl (fun hb4 => ?_) (fun hb4 => ?_)
    ·
      refine .seq (.text (.as_ rfl rfl (.done (.thenN ?_))))
      refine .ret (.thenR ?_)
      refine J.dropF 1 ?_
      exact J.retTmp rfl (List.Sublist.refl _) ⟨_, rfl, by rw [rfSvcE, if_pos he, if_pos hb4]; rfl, by rw [rfSvcW, if_pos he, if_pos hb4]; exact ⟨_, _, _, rfl, hn, hs, hc⟩⟩
    ·
      refine .skip (.thenN ?_)
      refine .seq (.text (.mv rfl rfl (.fa rfl rfl (.stS rfl rfl rfl rfl (.done (.thenN ?_))))))
      refine .seq (.text (.mv rfl rfl (.fa rfl rfl (.stS rfl rfl rfl rfl (.done (.thenN ?_))))))
      refine .seq (.text (.as_ rfl rfl (.done (.thenN ?_))))
      refine .seq (.text (.as_ rfl rfl (.done (.thenN ?_))))
      refine .seq (.seq (.text (.as_ rfl rfl (.done (.thenN ?_)))))
      refine .block (?_)
      refine J.addE ?_
      refine J.loop (ι := Nat × Value × Hp × Int) (fun i => i.1 ≤ W.services.length ∧ SlT i.2.2.1 h i.2.1 7 31 RSvc ((W.services.take i.1).foldl (stepI (sameS s.node s.id) (gtS s.node s.id) setMS) ([], false, ({ s with made := ix, ix := ix } : Svc))).1 ∧ ((W.services.take i.1).foldl (stepI (sameS s.node s.id) (gtS s.node s.id) setMS) ([], false, ({ s with made := ix, ix := ix } : Svc))).2.2 = ({ s with made := i.2.2.2, ix := ix } : Svc)) (fun i => [(0, .pointer (some ⟨wb, 0, none⟩)), (2, .int .u64 ix), (4, .pointer (some ⟨b4, 0, none⟩)), (8, i.2.1), (9, .bool ((W.services.take i.1).foldl (stepI (sameS s.node s.id) (gtS s.node s.id) setMS) ([], false, ({ s with made := ix, ix := ix } : Svc))).2.1), (10, .int .i64 (i.1 : Int))]) (fun _ => h) (fun i => [i.2.2.1, one b4 (.cells ⟨(svcV ({ s with made := i.2.2.2, ix := ix } : Svc) (.slice tA s.tags.length tc))⟩ 31 (0, 0)), one wb (.cells ⟨rfV W (.slice nA W.nodes.length nc) (.slice sA W.services.length sc) (.slice cA W.checks.length cc)⟩ 68 (0, 0))]) (fun i => W.services.length - i.1) (0, .slice none 0 0, Hp.emp, ix) ⟨by simp, SlT.nil _ _ _ _, rfl⟩ (.cons rfl (.cons rfl (.cons rfl (.cons rfl (.cons rfl (.cons rfl (.nil _))))))) rfl rfl ?_
      rintro ⟨k, lv, ml, q⟩ ⟨hk0, hl, hcur⟩
      dsimp only [svcV, rfV] at hk0 hl hcur ⊢
      have hln := stepI_len' (same := sameS s.node s.id) (gt := gtS s.node s.id) (setM := setMS) (W.services.take k) ({ s with made := ix, ix := ix } : Svc)
      rw [List.length_take] at hln
      have hw0 := hw.ls
      generalize hst : ((W.services.take k).foldl (stepI (sameS s.node s.id) (gtS s.node s.id) setMS) ([], false, ({ s with made := ix, ix := ix } : Svc))) = st at hl hcur hln ⊢
      refine .seq (.seq (.text (.mv rfl rfl (.mv rfl rfl (.nilOk rfl rfl (.fa rfl rfl (.ld rfl rfl rfl rfl (.len hs rfl rfl rfl (.cmp rfl rfl rfl rfl (.done (.thenN ?_)))))))))))
      refine .cond rfl (fun hb11 => ?_) (fun hb11 => ?_)
      ·
        have hk : k < W.services.length := by simp [cmpI] at hb11; omega
        have hstep : (W.services.take (k + 1)).foldl (stepI (sameS s.node s.id) (gtS s.node s.id) setMS) ([], false, ({ s with made := ix, ix := ix } : Svc)) = stepI (sameS s.node s.id) (gtS s.node s.id) setMS st W.services[k] := by rw [foldl_take_succ hk, hst]
        refine .skip (.thenN ?_)
        refine .seq (.block (.seq (.text (.mv rfl rfl (.nilOk rfl rfl (.fa rfl rfl (.ld rfl rfl rfl rfl (.mv rfl rfl (.ix (i := k) hs rfl rfl rfl hk rfl (.ldE hs hk rfl rfl rfl fun vs hvs => ?_))))))))))
        obtain ⟨tv, rfl, htv⟩ := hvs
        obtain ⟨tA', tc', rfl⟩ := htv.form
        refine .alloc (cs := [_, _, _, _, _, _, _]) rfl rfl rfl fun b11 => .stW rfl rfl rfl rfl rfl rfl (.done (.thenN ?_))
        refine .seq (.seq (.text (.fa rfl rfl (.ld rfl rfl rfl rfl (.fa rfl rfl (.ld rfl rfl rfl rfl (.cmp rfl rfl rfl rfl (.mv rfl rfl (.and (d := 68) (g := 62) _ _ (take_drop 6) rfl rfl (fun hb14_6 => .guard rfl rfl rfl rfl (.fa rfl rfl (.guard rfl rfl rfl rfl (.ld rfl rfl rfl rfl (.guard rfl rfl rfl rfl (.fa rfl rfl (.guard rfl rfl rfl rfl (.ld rfl rfl rfl rfl (.guard rfl rfl rfl rfl (.cmpS rfl rfl rfl rfl (.pick rfl rfl rfl rfl ((.done (.thenN (.midB rfl))))))))))))))) (.guardNo rfl rfl rfl rfl rfl rfl (.guardNo rfl rfl rfl rfl rfl rfl (.guardNo rfl rfl rfl rfl rfl rfl (.guardNo rfl rfl rfl rfl rfl rfl (.guardNo rfl rfl rfl rfl rfl rfl (.pick rfl rfl rfl rfl ((.done (.thenN (.midB rfl)))))))))) (.done (.thenN ?_)))))))))))
        refine .cond rfl (fun hb14 => ?_) (fun hb14 => ?_)
        ·
          replace hb14 : sameS s.node s.id W.services[k] = true := hb14
          refine .seq (.text (.fa rfl rfl (.ld rfl rfl rfl rfl (.fa rfl rfl (.stS rfl rfl rfl rfl (.done (.thenN ?_)))))))
          refine .seq (.text (.mv rfl rfl (.ldW rfl rfl rfl rfl (.bs [_, _, _, _, _, _, _] rfl rfl rfl rfl (by decide) rfl rfl rfl fun b74 => ?_))))
          refine .app1 (z := ({ s with made := W.services[k].made, ix := ix } : Svc)) rfl hl rfl rfl rfl rfl ⟨_, rfl, hts⟩ (by unfold maxL; omega) rfl rfl fun va ma hma => .as_ rfl rfl (.done (.thenN ?_))
          refine .seq (.text (.as_ rfl rfl (.done (.thenN ?_))))
          refine .exit (.thenE (.blkHit (.thenN ?_)))
          refine .text (.mv rfl rfl (.inc rfl rfl (by omega) rfl (.as_ rfl rfl (.done (.thenN ?_)))))
          refine J.dropF 2 (J.again (k + 1, va, ma, W.services[k].made) (by dsimp only; omega) ⟨hk, ?_, ?_⟩ (.cons rfl (.cons rfl (.cons rfl (.cons rfl (.cons ?_ (.cons rfl (.nil _))))))) rfl rfl)
          · dsimp only; rw [hstep, stepI, if_pos hb14, setMS, hcur]; exact hma
          · dsimp only; rw [hstep, stepI, if_pos hb14, setMS, hcur]
          · dsimp only; rw [hstep, stepI, if_pos hb14]; rfl
        ·
          replace hb14 : sameS s.node s.id W.services[k] = false := hb14
          refine .skip (.thenN ?_)
          refine J.cut (ι := Value × Hp) (fun i => SlT i.2 h i.1 7 31 RSvc (if (!st.2.1 && gtS s.node s.id W.services[k]) = true then st.1 ++ [({ s with made := q, ix := ix } : Svc)] else st.1)) (fun i => (11, .pointer (some ⟨b11, 0, none⟩)) :: [(0, .pointer (some ⟨wb, 0, none⟩)), (2, .int .u64 ix), (4, .pointer (some ⟨b4, 0, none⟩)), (8, i.1), (9, .bool (if (!st.2.1 && gtS s.node s.id W.services[k]) = true then true else st.2.1)), (10, .int .i64 (k : Int))]) (fun _ => h) (fun i => [one b11 (.cells ⟨svcV W.services[k] (.slice tA' W.services[k].tags.length tc')⟩ 31 (0, 0)), i.2, one b4 (.cells ⟨(svcV ({ s with made := q, ix := ix } : Svc) (.slice tA s.tags.length tc))⟩ 31 (0, 0)), one wb (.cells ⟨rfV W (.slice nA W.nodes.length nc) (.slice sA W.services.length sc) (.slice cA W.checks.length cc)⟩ 68 (0, 0))]) ?_ ?_
          ·
            refine .seq (.text (.mv rfl rfl (.not rfl rfl (.mv rfl rfl (.and (d := 98) (g := 78) _ _ (take_drop 20) rfl rfl (fun hb18_3 => .guard rfl rfl rfl rfl (.fa rfl rfl (.guard rfl rfl rfl rfl (.ld rfl rfl rfl rfl (.guard rfl rfl rfl rfl (.fa rfl rfl (.guard rfl rfl rfl rfl (.ld rfl rfl rfl rfl (.guard rfl rfl rfl rfl (.cmp rfl rfl rfl rfl (.guard rfl rfl rfl rfl (.mv rfl rfl (.or (d := 97) (g := 84) _ _ (take_drop 13) rfl rfl (fun hb18_9 => .guard rfl rfl rfl rfl (.fa rfl rfl (.guard rfl rfl rfl rfl (.ld rfl rfl rfl rfl (.guard rfl rfl rfl rfl (.fa rfl rfl (.guard rfl rfl rfl rfl (.ld rfl rfl rfl rfl (.guard rfl rfl rfl rfl (.cmp rfl rfl rfl rfl (.guard rfl rfl rfl rfl (.mv rfl rfl (.and (d := 96) (g := 90) _ _ (take_drop 6) rfl rfl (fun hb18_15 => .guard rfl rfl rfl rfl (.fa rfl rfl (.guard rfl rfl rfl rfl (.ld rfl rfl rfl rfl (.guard rfl rfl rfl rfl (.fa rfl rfl (.guard rfl rfl rfl rfl (.ld rfl rfl rfl rfl (.guard rfl rfl rfl rfl (.cmpS rfl rfl rfl rfl (.guard rfl rfl rfl rfl (.pick rfl rfl rfl rfl ((.done (.thenN (.midB rfl)))))))))))))))) (.guardNo rfl rfl rfl rfl rfl rfl (.guardNo rfl rfl rfl rfl rfl rfl (.guardNo rfl rfl rfl rfl rfl rfl (.guardNo rfl rfl rfl rfl rfl rfl (.guardNo rfl rfl rfl rfl rfl rfl (.guard rfl rfl rfl rfl (.pick rfl rfl rfl rfl ((.done (.thenN (.midB rfl))))))))))) (.guard rfl rfl rfl rfl (.pick rfl rfl rfl rfl ((.done (.thenN (.midB rfl))))))))))))))))))) (.guardNo rfl rfl rfl rfl rfl rfl (.guardNo rfl rfl rfl rfl rfl rfl (.guardNo rfl rfl rfl rfl rfl rfl (.guardNo rfl rfl rfl rfl rfl rfl (.guardNo rfl rfl rfl rfl rfl rfl (.guardNo rfl rfl rfl rfl rfl rfl (.guardU rfl rfl rfl rfl rfl (.guardU rfl rfl rfl rfl rfl (.guardU rfl rfl rfl rfl rfl (.guardU rfl rfl rfl rfl rfl (.guardU rfl rfl rfl rfl rfl (.guardNo rfl rfl rfl rfl rfl rfl (.guard rfl rfl rfl rfl (.pick rfl rfl rfl rfl ((.done (.thenN (.midB rfl)))))))))))))))))) (.pick rfl rfl rfl rfl ((.done (.thenN (.midB rfl)))))))))))))))))) (.guardNo rfl rfl rfl rfl rfl rfl (.guardNo rfl rfl rfl rfl rfl rfl (.guardNo rfl rfl rfl rfl rfl rfl (.guardNo rfl rfl rfl rfl rfl rfl (.guardNo rfl rfl rfl rfl rfl rfl (.guardNo rfl rfl rfl rfl rfl rfl (.guardU rfl rfl rfl rfl rfl (.guardU rfl rfl rfl rfl rfl (.guardU rfl rfl rfl rfl rfl (.guardU rfl rfl rfl rfl rfl (.guardU rfl rfl rfl rfl rfl (.guardU rfl rfl rfl rfl rfl (.guardU rfl rfl rfl rfl rfl (.guardU rfl rfl rfl rfl rfl (.guardU rfl rfl rfl rfl rfl (.guardU rfl rfl rfl rfl rfl (.guardU rfl rfl rfl rfl rfl (.guardU rfl rfl rfl rfl rfl (.guardNo rfl rfl rfl rfl rfl rfl (.pick rfl rfl rfl rfl ((.done (.thenN (.midB rfl)))))))))))))))))))))))) (.done (.thenN ?_)))))))
            refine .cond rfl (fun hb18 => ?_) (fun hb18 => ?_)
            ·
              replace hb18 : (!st.2.1 && gtS s.node s.id W.services[k]) = true := hb18
              refine .seq (.text (.mv rfl rfl (.ldW rfl rfl rfl rfl (.bs [_, _, _, _, _, _, _] rfl rfl rfl rfl (by decide) rfl rfl rfl fun b101 => ?_))))
              refine .app1 (z := ({ s with made := q, ix := ix } : Svc)) rfl hl rfl rfl rfl rfl ⟨_, rfl, hts⟩ (by unfold maxL; omega) rfl rfl fun vb mb hmb => .as_ rfl rfl (.done (.thenN ?_))
              refine .text (.as_ rfl rfl (.done (.thenN ?_)))
              refine J.dropF 1 (J.mid (vb, mb) ?_ (.cons rfl (.cons rfl (.cons rfl (.cons rfl (.cons rfl (.cons ?_ (.cons rfl (.nil _)))))))) rfl rfl)
              · dsimp only; rw [if_pos hb18]; exact hmb
              · rw [if_pos hb18]; rfl
            ·
              replace hb18 : (!st.2.1 && gtS s.node s.id W.services[k]) = false := hb18
              refine .skip (.thenN ?_)
              refine J.mid (lv, ml) ?_ (.cons rfl (.cons rfl (.cons rfl (.cons rfl (.cons rfl (.cons ?_ (.cons rfl (.nil _)))))))) rfl rfl
              · dsimp only; rw [if_neg (ifn hb18)]; exact hl
              · rw [if_neg (ifn hb18)]; rfl
          ·
            rintro ⟨lv, ml⟩ hl
            dsimp only [svcV, rfV] at hl ⊢
            have hln2 : (if (!st.2.1 && gtS s.node s.id W.services[k]) = true then st.1 ++ [({ s with made := q, ix := ix } : Svc)] else st.1).length ≤ st.1.length + 1 := by split <;> simp
            refine .text (.mv rfl rfl (.ldW rfl rfl rfl rfl (.bs [_, _, _, _, _, _, _] rfl rfl rfl rfl (by decide) rfl rfl rfl fun b105 => ?_)))
            refine .app1 (z := W.services[k]) rfl hl rfl rfl rfl rfl ⟨_, rfl, htv⟩ (by unfold maxL; omega) rfl rfl fun vc mc hmc => .as_ rfl rfl (.done (.blkN (.thenN ?_)))
            refine .text (.mv rfl rfl (.inc rfl rfl (by omega) rfl (.as_ rfl rfl (.done (.thenN ?_)))))
            refine J.dropF 2 (J.again (k + 1, vc, mc, q) (by dsimp only; omega) ⟨hk, ?_, ?_⟩ (.cons rfl (.cons rfl (.cons rfl (.cons rfl (.cons ?_ (.cons rfl (.nil _))))))) rfl rfl)
            · dsimp only; rw [hstep, stepI, if_neg (ifn hb14)]
              by_cases hg : (!st.2.1 && gtS s.node s.id W.services[k]) = true
              · rw [if_pos hg] at hmc ⊢; rw [hcur]; simpa using hmc
              · rw [if_neg hg] at hmc ⊢; exact hmc
            · dsimp only; rw [hstep, stepI, if_neg (ifn hb14)]; split <;> exact hcur
            · dsimp only; rw [hstep, stepI, if_neg (ifn hb14)]; split <;> rfl
      ·
        have hk : k = W.services.length := by simp [cmpI] at hb11; omega
        subst hk
        rw [List.take_length] at hst
        refine .exit (.thenE (.thenE (.blkHit (.thenN ?_))))
        refine J.cut (ι := Value × Hp) (fun i => SlT i.2 h i.1 7 31 RSvc (insI (sameS s.node s.id) (gtS s.node s.id) setMS W.services ({ s with made := ix, ix := ix } : Svc))) (fun i => [(0, .pointer (some ⟨wb, 0, none⟩)), (2, .int .u64 ix), (8, i.1)]) (fun _ => h) (fun i => [i.2, one wb (.cells ⟨rfV W (.slice nA W.nodes.length nc) (.slice sA W.services.length sc) (.slice cA W.checks.length cc)⟩ 68 (0, 0))]) ?_ ?_
        ·
          refine .seq (.text (.mv rfl rfl (.not rfl rfl (.done (.thenN ?_)))))
          refine .cond rfl (fun hb22 => ?_) (fun hb22 => ?_)
          ·
            refine .text (.mv rfl rfl (.ldW rfl rfl rfl rfl (.bs [_, _, _, _, _, _, _] rfl rfl rfl rfl (by decide) rfl rfl rfl fun b111 => ?_)))
            refine .app1 (z := ({ s with made := q, ix := ix } : Svc)) rfl hl rfl rfl rfl rfl ⟨_, rfl, hts⟩ (by unfold maxL; omega) rfl rfl fun vd md hmd => .as_ rfl rfl (.done (.thenN ?_))
            refine J.dropF 1 (J.drop (List.Sublist.cons_cons _ (List.sublist_cons_self _ _)) (J.mid (vd, md) ?_ (.cons rfl (.cons rfl (.cons rfl (.nil _)))) rfl rfl))
            have h21 : st.2.1 = false := by simpa using hb22
            dsimp only; rw [insI, hst, h21, if_neg (by decide), hcur]; exact hmd
          ·
            refine .skip (.thenN ?_)
            refine J.drop (List.Sublist.cons_cons _ (List.sublist_cons_self _ _)) (J.mid (lv, ml) ?_ (.cons rfl (.cons rfl (.cons rfl (.nil _)))) rfl rfl)
            have h21 : st.2.1 = true := by simpa using hb22
            dsimp only; rw [insI, hst, h21, if_pos rfl]; exact hl
        ·
          rintro ⟨lv, ml⟩ hl
          dsimp only [rfV] at hl ⊢
          refine J.frz hl RSvc.mono fun h1 hl1 hs1 => ?_
          obtain ⟨lA, lc, rfl⟩ := hs1.form
          refine .seq (.text (.mv rfl rfl (.mv rfl rfl (.nilOk rfl rfl (.fa rfl rfl (.stS rfl rfl rfl rfl (.done (.thenN ?_))))))))
          refine .seq (.text (.mv rfl rfl (.mv rfl rfl (?_))))
          refine .callM rfl rfl (raise1_walk (a := .int .i64 W.most) (b := (.slice nA W.nodes.length nc)) (c := .slice lA (insI (sameS s.node s.id) (gtS s.node s.id) setMS W.services ({ s with made := ix, ix := ix } : Svc)).length lc) (d := (.slice cA W.checks.length cc)) (l0 := W.l0) (l1 := W.l1) (l2 := W.l2)) rfl rfl fun ur hr mr hlr hur => ?_
          obtain ⟨rfl, rfl, rfl⟩ := hur
          refine .done (.thenN ?_)
          refine .seq (.text (.as_ rfl rfl (.done (.thenN ?_))))
          refine .ret ?_
          exact J.retTmp rfl (List.Sublist.refl _) ⟨_, rfl, by rw [rfSvcE, if_pos he, if_neg (ifn hb4)]; rfl, by rw [rfSvcW, if_pos he, if_neg (ifn hb4)]; exact ⟨_, _, _, rfl, hn.mono RNod.mono hl1, hs1, hc.mono RChk.mono hl1⟩⟩

theorem rfchk_walk {wb : Nat} {h m : Hp} {W : Rrf} {ix : Int} {c : Chk} (ht : Rb m h wb W) (hw : RfWf W) : FM Go.Proofs.Tryz.prog 33 [.pointer (some ⟨wb, 0, none⟩), .agg ⟨chkV c⟩, .int .u64 ix] h m (fun v h' m' => v = .int .i64 (rfChkE W c) ∧ Rb m' h' wb (rfChkW W c ix)) := by
  refine FS.enter Go.Proofs.Tryz.func33 rfl rfl fun w0 => ?_
  obtain ⟨nv, sv, cv, rfl, hn, hs, hc⟩ := ht
  obtain ⟨nA, nc, rfl⟩ := hn.form
  obtain ⟨sA, sc, rfl⟩ := hs.form
  obtain ⟨cA, cc, rfl⟩ := hc.form
  refine .seq (.text (.box (cs := [_, _, _, _, _, _, _]) rfl rfl rfl rfl fun b4 => .as_ rfl rfl (.done (.thenN ?_))))
  refine .seq (.seq (.text (.mv rfl rfl (.ldW rfl rfl rfl rfl (?_)))))
  refine .callR rfl rfl (rfwc_walk (W := W) hn hs) rfl rfl (.as_ rfl rfl (.done (.thenN ?_)))
  refine .seq (.text (.mv rfl rfl (.cmp rfl rfl rfl rfl (.done (.thenN ?_)))))
  refine .cond rfl (fun hb2 => ?_) (fun hb2 => ?_)
  ·
    have he : ¬ rfErrC W c = 0 := by simpa using hb2
    refine .seq (.text (.mv rfl rfl (.as_ rfl rfl (.done (.thenN ?_)))))
    refine .ret (.thenR ?_)
    refine J.dropF 1 ?_
    exact J.retTmp rfl (List.Sublist.refl _) ⟨_, rfl, by rw [rfChkE, if_neg he]; rfl, by rw [rfChkW, if_neg he]; exact ⟨_, _, _, rfl, hn, hs, hc⟩⟩
  ·
    have he : rfErrC W c = 0 := by simpa using hb2
    unfold rfV
    refine .skip (.thenN ?_)
    refine .seq (.text (.as_ rfl rfl (.done (.thenN ?_))))
    refine .seq (.seq (.text (.as_ rfl rfl (.done (.thenN ?_)))))
    refine .block (?_)
    refine J.loop (fun k : Nat => k ≤ W.checks.length) (fun k => [(0, .pointer (some ⟨wb, 0, none⟩)), (2, .int .u64 ix), (4, .pointer (some ⟨b4, 0, none⟩)), (8, .bool ((W.checks.take k).any (sameC c.node c.id))), (9, .int .i64 (k : Int))]) (fun _ => h) (fun _ => [one b4 (.cells ⟨chkV c⟩ 33 (0, 0)), one wb (.cells ⟨rfV W (.slice nA W.nodes.length nc) (.slice sA W.services.length sc) (.slice cA W.checks.length cc)⟩ 68 (0, 0))]) (fun k => W.checks.length - k) 0 (by omega) (.cons rfl (.cons rfl (.cons rfl (.cons rfl (.cons rfl (.nil _)))))) rfl rfl ?_
    rintro k hk0
    unfold chkV rfV
    refine .seq (.seq (.text (.mv rfl rfl (.mv rfl rfl (.nilOk rfl rfl (.fa rfl rfl (.ld rfl rfl rfl rfl (.len hc rfl rfl rfl (.cmp rfl rfl rfl rfl (.done (.thenN ?_)))))))))))
    refine .cond rfl (fun hb6 => ?_) (fun hb6 => ?_)
    ·
      have hk : k < W.checks.length := by simp [cmpI] at hb6; omega
      refine .skip (.thenN ?_)
      refine .seq (.block (.draw [(0, .pure), (1, .pure), (2, .pure), (3, .pure), (4, .pure), (5, .read), (6, .pure), (7, .pure), (8, .pure), (9, .read), (10, .pure), (11, .read), (12, .pure), (13, .pure), (14, .pure), (15, .pure), (16, .pure), (17, .read), (18, .pure), (19, .pure), (20, .pure), (21, .read), (22, .pure), (23, .read), (24, .pure), (25, .pure), (26, .pure), (27, .pure)] rfl (by kernel_rfl) (.mv rfl rfl (.mv rfl rfl (.or (d := 55) (g := 30) _ _ (take_drop 25) rfl rfl (fun hb8_2 => .guard rfl rfl rfl rfl (.mv rfl rfl (.guard rfl rfl rfl rfl (.nilOk rfl rfl (.guard rfl rfl rfl rfl (.fa rfl rfl (.guard rfl rfl rfl rfl (.ld rfl rfl rfl rfl (.guard rfl rfl rfl rfl (.mv rfl rfl (.guard rfl rfl rfl rfl (.ix (i := k) hc rfl rfl rfl hk rfl (.guard rfl rfl rfl rfl (.faE rfl (hc.ne (by omega)) rfl (.guard rfl rfl rfl rfl (.ldG (.int .i64 W.checks[k].node) hc hk rfl (fun vs e => by obtain rfl := e; rfl) rfl rfl (.guard rfl rfl rfl rfl (.fa rfl rfl (.guard rfl rfl rfl rfl (.ld rfl rfl rfl rfl (.guard rfl rfl rfl rfl (.cmp rfl rfl rfl rfl (.guard rfl rfl rfl rfl (.mv rfl rfl (.and (d := 54) (g := 42) _ _ (take_drop 12) rfl rfl (fun hb8_14 => .guard rfl rfl rfl rfl (.mv rfl rfl (.guard rfl rfl rfl rfl (.nilOk rfl rfl (.guard rfl rfl rfl rfl (.fa rfl rfl (.guard rfl rfl rfl rfl (.ld rfl rfl rfl rfl (.guard rfl rfl rfl rfl (.mv rfl rfl (.guard rfl rfl rfl rfl (.ix (i := k) hc rfl rfl rfl hk rfl (.guard rfl rfl rfl rfl (.faE rfl (hc.ne (by omega)) rfl (.guard rfl rfl rfl rfl (.ldG (.string W.checks[k].id) hc hk rfl (fun vs e => by obtain rfl := e; rfl) rfl rfl (.guard rfl rfl rfl rfl (.fa rfl rfl (.guard rfl rfl rfl rfl (.ld rfl rfl rfl rfl (.guard rfl rfl rfl rfl (.cmpS rfl rfl rfl rfl (.guard rfl rfl rfl rfl (.pick rfl rfl rfl rfl ((.done (.thenN (.midB rfl)))))))))))))))))))))))))))) (.guardNo rfl rfl rfl rfl rfl rfl (.guardNo rfl rfl rfl rfl rfl rfl (.guardNo rfl rfl rfl rfl rfl rfl (.guardNo rfl rfl rfl rfl rfl rfl (.guardNo rfl rfl rfl rfl rfl rfl (.guardNo rfl rfl rfl rfl rfl rfl (.guardNo rfl rfl rfl rfl rfl rfl (.guardNo rfl rfl rfl rfl rfl rfl (.guardNo rfl rfl rfl rfl rfl rfl (.guardNo rfl rfl rfl rfl rfl rfl (.guardNo rfl rfl rfl rfl rfl rfl (.guard rfl rfl rfl rfl (.pick rfl rfl rfl rfl ((.done (.thenN (.midB rfl))))))))))))))))) (.pick rfl rfl rfl rfl ((.done (.thenN (.midB rfl)))))))))))))))))))))))))))))) (.guardNo rfl rfl rfl rfl rfl rfl (.guardNo rfl rfl rfl rfl rfl rfl (.guardNo rfl rfl rfl rfl rfl rfl (.guardNo rfl rfl rfl rfl rfl rfl (.guardNo rfl rfl rfl rfl rfl rfl (.guardNo rfl rfl rfl rfl rfl rfl (.guardNo rfl rfl rfl rfl rfl rfl (.guardNo rfl rfl rfl rfl rfl rfl (.guardNo rfl rfl rfl rfl rfl rfl (.guardNo rfl rfl rfl rfl rfl rfl (.guardNo rfl rfl rfl rfl rfl rfl (.guardNo rfl rfl rfl rfl rfl rfl (.guardU rfl rfl rfl rfl rfl (.guardU rfl rfl rfl rfl rfl (.guardU rfl rfl rfl rfl rfl (.guardU rfl rfl rfl rfl rfl (.guardU rfl rfl rfl rfl rfl (.guardU rfl rfl rfl rfl rfl (.guardU rfl rfl rfl rfl rfl (.guardU rfl rfl rfl rfl rfl (.guardU rfl rfl rfl rfl rfl (.guardU rfl rfl rfl rfl rfl (.guardU rfl rfl rfl rfl rfl (.guardNo rfl rfl rfl rfl rfl rfl (.pick rfl rfl rfl rfl ((.done (.thenN (.midB rfl))))))))))))))))))))))))))))) (.as_ rfl rfl (.done (.blkN (.thenN ?_)))))))))
      refine .text (.mv rfl rfl (.inc rfl rfl (by have := hw.lc; omega) rfl (.as_ rfl rfl (.done (.thenN ?_)))))
      refine J.again (k + 1) (by omega) hk (.cons rfl (.cons rfl (.cons rfl (.cons ?_ (.cons rfl (.nil _)))))) rfl rfl
      rw [any_take_succ hk]; rfl
    ·
      have hk : k = W.checks.length := by simp [cmpI] at hb6; omega
      subst hk
      rw [List.take_length]
      refine .exit (.thenE (.thenE (.blkHit (.thenN ?_))))
      refine .seq (.seq (.draw [(0, .pure), (1, .pure), (2, .pure), (3, .pure), (4, .pure), (5, .pure), (6, .read), (7, .pure), (8, .pure), (9, .pure), (10, .pure), (11, .read), (12, .pure), (13, .pure)] rfl (by kernel_rfl) (.mv rfl rfl (.not rfl rfl (.mv rfl rfl (.and (d := 69) (g := 58) _ _ (take_drop 11) rfl rfl (fun hb9_3 => .guard rfl rfl rfl rfl (.mv rfl rfl (.guard rfl rfl rfl rfl (.nilOk rfl rfl (.guard rfl rfl rfl rfl (.fa rfl rfl (.guard rfl rfl rfl rfl (.ld rfl rfl rfl rfl (.guard rfl rfl rfl rfl (.len hc rfl rfl rfl (.guard rfl rfl rfl rfl (.mv rfl rfl (.guard rfl rfl rfl rfl (.nilOk rfl rfl (.guard rfl rfl rfl rfl (.fa rfl rfl (.guard rfl rfl rfl rfl (.ld rfl rfl rfl rfl (.guard rfl rfl rfl rfl (.cmp rfl rfl rfl rfl (.pick rfl rfl rfl rfl ((.done (.thenN (.midB rfl))))))))))))))))))))))))) (.guardNo rfl rfl rfl rfl rfl rfl (.guardNo rfl rfl rfl rfl rfl rfl (.guardNo rfl rfl rfl rfl rfl rfl (.guardNo rfl rfl rfl rfl rfl rfl (.guardNo rfl rfl rfl rfl rfl rfl (.guardNo rfl rfl rfl rfl rfl rfl (.guardNo rfl rfl rfl rfl rfl rfl (.guardNo rfl rfl rfl rfl rfl rfl (.guardNo rfl rfl rfl rfl rfl rfl (.guardNo rfl rfl rfl rfl rfl rfl (.pick rfl rfl rfl rfl ((.done (.thenN (.midB rfl))))))))))))))) (.done (.thenN ?_))))))))
      refine .cond rfl (fun hb9 => ?_) (fun hb9 => ?_)
      ·
        replace hb9 : (!rfIsC W c && decide (W.most ≤ (W.checks.length : Int))) = true := hb9
        refine .seq (.text (.as_ rfl rfl (.done (.thenN ?_))))
        refine .ret (.thenR ?_)
        refine J.dropF 1 ?_
        exact J.retTmp rfl (List.Sublist.refl _) ⟨_, rfl, by rw [rfChkE, if_pos he, if_pos hb9]; rfl, by rw [rfChkW, if_pos he, if_pos hb9]; exact ⟨_, _, _, rfl, hn, hs, hc⟩⟩
      ·
        replace hb9 : (!rfIsC W c && decide (W.most ≤ (W.checks.length : Int))) = false := hb9
        refine .skip (.thenN ?_)
        refine .seq (.text (.mv rfl rfl (.fa rfl rfl (.stS rfl rfl rfl rfl (.done (.thenN ?_))))))
        refine .seq (.text (.mv rfl rfl (.fa rfl rfl (.stS rfl rfl rfl rfl (.done (.thenN ?_))))))
        refine .seq (.text (.as_ rfl rfl (.done (.thenN ?_))))
        refine .seq (.text (.as_ rfl rfl (.done (.thenN ?_))))
        refine .seq (.seq (.text (.as_ rfl rfl (.done (.thenN ?_)))))
        refine .block (?_)
        refine J.addE ?_
        refine J.loop (ι := Nat × Value × Hp × Int) (fun i => i.1 ≤ W.checks.length ∧ SlT i.2.2.1 h i.2.1 7 33 RChk ((W.checks.take i.1).foldl (stepI (sameC c.node c.id) (gtC c.node c.id) setMC) ([], false, ({ c with made := ix, ix := ix } : Chk))).1 ∧ ((W.checks.take i.1).foldl (stepI (sameC c.node c.id) (gtC c.node c.id) setMC) ([], false, ({ c with made := ix, ix := ix } : Chk))).2.2 = ({ c with made := i.2.2.2, ix := ix } : Chk)) (fun i => [(0, .pointer (some ⟨wb, 0, none⟩)), (2, .int .u64 ix), (4, .pointer (some ⟨b4, 0, none⟩)), (10, i.2.1), (11, .bool ((W.checks.take i.1).foldl (stepI (sameC c.node c.id) (gtC c.node c.id) setMC) ([], false, ({ c with made := ix, ix := ix } : Chk))).2.1), (12, .int .i64 (i.1 : Int))]) (fun _ => h) (fun i => [i.2.2.1, one b4 (.cells ⟨(chkV ({ c with made := i.2.2.2, ix := ix } : Chk))⟩ 33 (0, 0)), one wb (.cells ⟨rfV W (.slice nA W.nodes.length nc) (.slice sA W.services.length sc) (.slice cA W.checks.length cc)⟩ 68 (0, 0))]) (fun i => W.checks.length - i.1) (0, .slice none 0 0, Hp.emp, ix) ⟨by simp, SlT.nil _ _ _ _, rfl⟩ (.cons rfl (.cons rfl (.cons rfl (.cons rfl (.cons rfl (.cons rfl (.nil _))))))) rfl rfl ?_
        rintro ⟨k, lv, ml, q⟩ ⟨hk0, hl, hcur⟩
        dsimp only [chkV, rfV] at hk0 hl hcur ⊢
        have hln := stepI_len' (same := sameC c.node c.id) (gt := gtC c.node c.id) (setM := setMC) (W.checks.take k) ({ c with made := ix, ix := ix } : Chk)
        rw [List.length_take] at hln
        have hw0 := hw.lc
        generalize hst : ((W.checks.take k).foldl (stepI (sameC c.node c.id) (gtC c.node c.id) setMC) ([], false, ({ c with made := ix, ix := ix } : Chk))) = st at hl hcur hln ⊢
        refine .seq (.seq (.text (.mv rfl rfl (.mv rfl rfl (.nilOk rfl rfl (.fa rfl rfl (.ld rfl rfl rfl rfl (.len hc rfl rfl rfl (.cmp rfl rfl rfl rfl (.done (.thenN ?_)))))))))))
        refine .cond rfl (fun hb16 => ?_) (fun hb16 => ?_)
        ·
          have hk : k < W.checks.length := by simp [cmpI] at hb16; omega
          have hstep : (W.checks.take (k + 1)).foldl (stepI (sameC c.node c.id) (gtC c.node c.id) setMC) ([], false, ({ c with made := ix, ix := ix } : Chk)) = stepI (sameC c.node c.id) (gtC c.node c.id) setMC st W.checks[k] := by rw [foldl_take_succ hk, hst]
          refine .skip (.thenN ?_)
          refine .seq (.block (.seq (.text (.mv rfl rfl (.nilOk rfl rfl (.fa rfl rfl (.ld rfl rfl rfl rfl (.mv rfl rfl (.ix (i := k) hc rfl rfl rfl hk rfl (.ldE hc hk rfl rfl rfl fun vs hvs => ?_))))))))))
          obtain rfl := hvs
          refine .alloc (cs := [_, _, _, _, _, _, _]) rfl rfl rfl fun b13 => .stW rfl rfl rfl rfl rfl rfl (.done (.thenN ?_))
          refine .seq (.seq (.text (.fa rfl rfl (.ld rfl rfl rfl rfl (.fa rfl rfl (.ld rfl rfl rfl rfl (.cmp rfl rfl rfl rfl (.mv rfl rfl (.and (d := 101) (g := 95) _ _ (take_drop 6) rfl rfl (fun hb19_6 => .guard rfl rfl rfl rfl (.fa rfl rfl (.guard rfl rfl rfl rfl (.ld rfl rfl rfl rfl (.guard rfl rfl rfl rfl (.fa rfl rfl (.guard rfl rfl rfl rfl (.ld rfl rfl rfl rfl (.guard rfl rfl rfl rfl (.cmpS rfl rfl rfl rfl (.pick rfl rfl rfl rfl ((.done (.thenN (.midB rfl))))))))))))))) (.guardNo rfl rfl rfl rfl rfl rfl (.guardNo rfl rfl rfl rfl rfl rfl (.guardNo rfl rfl rfl rfl rfl rfl (.guardNo rfl rfl rfl rfl rfl rfl (.guardNo rfl rfl rfl rfl rfl rfl (.pick rfl rfl rfl rfl ((.done (.thenN (.midB rfl)))))))))) (.done (.thenN ?_)))))))))))
          refine .cond rfl (fun hb19 => ?_) (fun hb19 => ?_)
          ·
            replace hb19 : sameC c.node c.id W.checks[k] = true := hb19
            refine .seq (.text (.fa rfl rfl (.ld rfl rfl rfl rfl (.fa rfl rfl (.stS rfl rfl rfl rfl (.done (.thenN ?_)))))))
            refine .seq (.text (.mv rfl rfl (.ldW rfl rfl rfl rfl (.bs [_, _, _, _, _, _, _] rfl rfl rfl rfl (by decide) rfl rfl rfl fun b107 => ?_))))
            refine .app1 (z := ({ c with made := W.checks[k].made, ix := ix } : Chk)) rfl hl rfl rfl rfl rfl rfl (by unfold maxL; omega) rfl rfl fun va ma hma => .as_ rfl rfl (.done (.thenN ?_))
            refine .seq (.text (.as_ rfl rfl (.done (.thenN ?_))))
            refine .exit (.thenE (.blkHit (.thenN ?_)))
            refine .text (.mv rfl rfl (.inc rfl rfl (by omega) rfl (.as_ rfl rfl (.done (.thenN ?_)))))
            refine J.dropF 2 (J.again (k + 1, va, ma, W.checks[k].made) (by dsimp only; omega) ⟨hk, ?_, ?_⟩ (.cons rfl (.cons rfl (.cons rfl (.cons rfl (.cons ?_ (.cons rfl (.nil _))))))) rfl rfl)
            · dsimp only; rw [hstep, stepI, if_pos hb19, setMC, hcur]; exact hma
            · dsimp only; rw [hstep, stepI, if_pos hb19, setMC, hcur]
            · dsimp only; rw [hstep, stepI, if_pos hb19]; rfl
          ·
            replace hb19 : sameC c.node c.id W.checks[k] = false := hb19
            refine .skip (.thenN ?_)
            refine J.cut (ι := Value × Hp) (fun i => SlT i.2 h i.1 7 33 RChk (if (!st.2.1 && gtC c.node c.id W.checks[k]) = true then st.1 ++ [({ c with made := q, ix := ix } : Chk)] else st.1)) (fun i => (13, .pointer (some ⟨b13, 0, none⟩)) :: [(0, .pointer (some ⟨wb, 0, none⟩)), (2, .int .u64 ix), (4, .pointer (some ⟨b4, 0, none⟩)), (10, i.1), (11, .bool (if (!st.2.1 && gtC c.node c.id W.checks[k]) = true then true else st.2.1)), (12, .int .i64 (k : Int))]) (fun _ => h) (fun i => [one b13 (.cells ⟨chkV W.checks[k]⟩ 33 (0, 0)), i.2, one b4 (.cells ⟨(chkV ({ c with made := q, ix := ix } : Chk))⟩ 33 (0, 0)), one wb (.cells ⟨rfV W (.slice nA W.nodes.length nc) (.slice sA W.services.length sc) (.slice cA W.checks.length cc)⟩ 68 (0, 0))]) ?_ ?_
            ·
              refine .seq (.text (.mv rfl rfl (.not rfl rfl (.mv rfl rfl (.and (d := 131) (g := 111) _ _ (take_drop 20) rfl rfl (fun hb23_3 => .guard rfl rfl rfl rfl (.fa rfl rfl (.guard rfl rfl rfl rfl (.ld rfl rfl rfl rfl (.guard rfl rfl rfl rfl (.fa rfl rfl (.guard rfl rfl rfl rfl (.ld rfl rfl rfl rfl (.guard rfl rfl rfl rfl (.cmp rfl rfl rfl rfl (.guard rfl rfl rfl rfl (.mv rfl rfl (.or (d := 130) (g := 117) _ _ (take_drop 13) rfl rfl (fun hb23_9 => .guard rfl rfl rfl rfl (.fa rfl rfl (.guard rfl rfl rfl rfl (.ld rfl rfl rfl rfl (.guard rfl rfl rfl rfl (.fa rfl rfl (.guard rfl rfl rfl rfl (.ld rfl rfl rfl rfl (.guard rfl rfl rfl rfl (.cmp rfl rfl rfl rfl (.guard rfl rfl rfl rfl (.mv rfl rfl (.and (d := 129) (g := 123) _ _ (take_drop 6) rfl rfl (fun hb23_15 => .guard rfl rfl rfl rfl (.fa rfl rfl (.guard rfl rfl rfl rfl (.ld rfl rfl rfl rfl (.guard rfl rfl rfl rfl (.fa rfl rfl (.guard rfl rfl rfl rfl (.ld rfl rfl rfl rfl (.guard rfl rfl rfl rfl (.cmpS rfl rfl rfl rfl (.guard rfl rfl rfl rfl (.pick rfl rfl rfl rfl ((.done (.thenN (.midB rfl)))))))))))))))) (.guardNo rfl rfl rfl rfl rfl rfl (.guardNo rfl rfl rfl rfl rfl rfl (.guardNo rfl rfl rfl rfl rfl rfl (.guardNo rfl rfl rfl rfl rfl rfl (.guardNo rfl rfl rfl rfl rfl rfl (.guard rfl rfl rfl rfl (.pick rfl rfl rfl rfl ((.done (.thenN (.midB rfl))))))))))) (.guard rfl rfl rfl rfl (.pick rfl rfl rfl rfl ((.done (.thenN (.midB rfl))))))))))))))))))) (.guardNo rfl rfl rfl rfl rfl rfl (.guardNo rfl rfl rfl rfl rfl rfl (.guardNo rfl rfl rfl rfl rfl rfl (.guardNo rfl rfl rfl rfl rfl rfl (.guardNo rfl rfl rfl rfl rfl rfl (.guardNo rfl rfl rfl rfl rfl rfl (.guardU rfl rfl rfl rfl rfl (.guardU rfl rfl rfl rfl rfl (.guardU rfl rfl rfl rfl rfl (.guardU rfl rfl rfl rfl rfl (.guardU rfl rfl rfl rfl rfl (.guardNo rfl rfl rfl rfl rfl rfl (.guard rfl rfl rfl rfl (.pick rfl rfl rfl rfl ((.done (.thenN (.midB rfl)))))))))))))))))) (.pick rfl rfl rfl rfl ((.done (.thenN (.midB rfl)))))))))))))))))) (.guardNo rfl rfl rfl rfl rfl rfl (.guardNo rfl rfl rfl rfl rfl rfl (.guardNo rfl rfl rfl rfl rfl rfl (.guardNo rfl rfl rfl rfl rfl rfl (.guardNo rfl rfl rfl rfl rfl rfl (.guardNo rfl rfl rfl rfl rfl rfl (.guardU rfl rfl rfl rfl rfl (.guardU rfl rfl rfl rfl rfl (.guardU rfl rfl rfl rfl rfl (.guardU rfl rfl rfl rfl rfl (.guardU rfl rfl rfl rfl rfl (.guardU rfl rfl rfl rfl rfl (.guardU rfl rfl rfl rfl rfl (.guardU rfl rfl rfl rfl rfl (.guardU rfl rfl rfl rfl rfl (.guardU rfl rfl rfl rfl rfl (.guardU rfl rfl rfl rfl rfl (.guardU rfl rfl rfl rfl rfl (.guardNo rfl rfl rfl rfl rfl rfl (.pick rfl rfl rfl rfl ((.done (.thenN (.midB rfl)))))))))))))))))))))))) (.done (.thenN ?_)))))))
              refine .cond rfl (fun hb23 => ?_) (fun hb23 => ?_)
              ·
                replace hb23 : (!st.2.1 && gtC c.node c.id W.checks[k]) = true := hb23
                refine .seq (.text (.mv rfl rfl (.ldW rfl rfl rfl rfl (.bs [_, _, _, _, _, _, _] rfl rfl rfl rfl (by decide) rfl rfl rfl fun b134 => ?_))))
                refine .app1 (z := ({ c with made := q, ix := ix } : Chk)) rfl hl rfl rfl rfl rfl rfl (by unfold maxL; omega) rfl rfl fun vb mb hmb => .as_ rfl rfl (.done (.thenN ?_))
                refine .text (.as_ rfl rfl (.done (.thenN ?_)))
                refine J.dropF 1 (J.mid (vb, mb) ?_ (.cons rfl (.cons rfl (.cons rfl (.cons rfl (.cons rfl (.cons ?_ (.cons rfl (.nil _)))))))) rfl rfl)
                · dsimp only; rw [if_pos hb23]; exact hmb
                · rw [if_pos hb23]; rfl
              ·
                replace hb23 : (!st.2.1 && gtC c.node c.id W.checks[k]) = false := hb23
                refine .skip (.thenN ?_)
                refine J.mid (lv, ml) ?_ (.cons rfl (.cons rfl (.cons rfl (.cons rfl (.cons rfl (.cons ?_ (.cons rfl (.nil _)))))))) rfl rfl
                · dsimp only; rw [if_neg (ifn hb23)]; exact hl
                · rw [if_neg (ifn hb23)]; rfl
            ·
              rintro ⟨lv, ml⟩ hl
              dsimp only [chkV, rfV] at hl ⊢
              have hln2 : (if (!st.2.1 && gtC c.node c.id W.checks[k]) = true then st.1 ++ [({ c with made := q, ix := ix } : Chk)] else st.1).length ≤ st.1.length + 1 := by split <;> simp
              refine .text (.mv rfl rfl (.ldW rfl rfl rfl rfl (.bs [_, _, _, _, _, _, _] rfl rfl rfl rfl (by decide) rfl rfl rfl fun b138 => ?_)))
              refine .app1 (z := W.checks[k]) rfl hl rfl rfl rfl rfl rfl (by unfold maxL; omega) rfl rfl fun vc mc hmc => .as_ rfl rfl (.done (.blkN (.thenN ?_)))
              refine .text (.mv rfl rfl (.inc rfl rfl (by omega) rfl (.as_ rfl rfl (.done (.thenN ?_)))))
              refine J.dropF 2 (J.again (k + 1, vc, mc, q) (by dsimp only; omega) ⟨hk, ?_, ?_⟩ (.cons rfl (.cons rfl (.cons rfl (.cons rfl (.cons ?_ (.cons rfl (.nil _))))))) rfl rfl)
              · dsimp only; rw [hstep, stepI, if_neg (ifn hb19)]
                by_cases hg : (!st.2.1 && gtC c.node c.id W.checks[k]) = true
                · rw [if_pos hg] at hmc ⊢; rw [hcur]; simpa using hmc
                · rw [if_neg hg] at hmc ⊢; exact hmc
              · dsimp only; rw [hstep, stepI, if_neg (ifn hb19)]; split <;> exact hcur
              · dsimp only; rw [hstep, stepI, if_neg (ifn hb19)]; split <;> rfl
        ·
          have hk : k = W.checks.length := by simp [cmpI] at hb16; omega
          subst hk
          rw [List.take_length] at hst
          refine .exit (.thenE (.thenE (.blkHit (.thenN ?_))))
          refine J.cut (ι := Value × Hp) (fun i => SlT i.2 h i.1 7 33 RChk (insI (sameC c.node c.id) (gtC c.node c.id) setMC W.checks ({ c with made := ix, ix := ix } : Chk))) (fun i => [(0, .pointer (some ⟨wb, 0, none⟩)), (2, .int .u64 ix), (10, i.1)]) (fun _ => h) (fun i => [i.2, one wb (.cells ⟨rfV W (.slice nA W.nodes.length nc) (.slice sA W.services.length sc) (.slice cA W.checks.length cc)⟩ 68 (0, 0))]) ?_ ?_
          ·
            refine .seq (.text (.mv rfl rfl (.not rfl rfl (.done (.thenN ?_)))))
            refine .cond rfl (fun hb27 => ?_) (fun hb27 => ?_)
            ·
              refine .text (.mv rfl rfl (.ldW rfl rfl rfl rfl (.bs [_, _, _, _, _, _, _] rfl rfl rfl rfl (by decide) rfl rfl rfl fun b144 => ?_)))
              refine .app1 (z := ({ c with made := q, ix := ix } : Chk)) rfl hl rfl rfl rfl rfl rfl (by unfold maxL; omega) rfl rfl fun vd md hmd => .as_ rfl rfl (.done (.thenN ?_))
              refine J.dropF 1 (J.drop (List.Sublist.cons_cons _ (List.sublist_cons_self _ _)) (J.mid (vd, md) ?_ (.cons rfl (.cons rfl (.cons rfl (.nil _)))) rfl rfl))
              have h21 : st.2.1 = false := by simpa using hb27
              dsimp only; rw [insI, hst, h21, if_neg (by decide), hcur]; exact hmd
            ·
              refine .skip (.thenN ?_)
              refine J.drop (List.Sublist.cons_cons _ (List.sublist_cons_self _ _)) (J.mid (lv, ml) ?_ (.cons rfl (.cons rfl (.cons rfl (.nil _)))) rfl rfl)
              have h21 : st.2.1 = true := by simpa using hb27
              dsimp only; rw [insI, hst, h21, if_pos rfl]; exact hl
          ·
            rintro ⟨lv, ml⟩ hl
            dsimp only [rfV] at hl ⊢
            refine J.frz hl RChk.mono fun h1 hl1 hs1 => ?_
            obtain ⟨lA, lc, rfl⟩ := hs1.form
            refine .seq (.text (.mv rfl rfl (.mv rfl rfl (.nilOk rfl rfl (.fa rfl rfl (.stS rfl rfl rfl rfl (.done (.thenN ?_))))))))
            refine .seq (.text (.mv rfl rfl (.mv rfl rfl (?_))))
            refine .callM rfl rfl (raise2_walk (a := .int .i64 W.most) (b := (.slice nA W.nodes.length nc)) (c := (.slice sA W.services.length sc)) (d := .slice lA (insI (sameC c.node c.id) (gtC c.node c.id) setMC W.checks ({ c with made := ix, ix := ix } : Chk)).length lc) (l0 := W.l0) (l1 := W.l1) (l2 := W.l2)) rfl rfl fun ur hr mr hlr hur => ?_
            obtain ⟨rfl, rfl, rfl⟩ := hur
            refine .done (.thenN ?_)
            refine .seq (.text (.as_ rfl rfl (.done (.thenN ?_))))
            refine .ret ?_
            exact J.retTmp rfl (List.Sublist.refl _) ⟨_, rfl, by rw [rfChkE, if_pos he, if_neg (ifn hb9)]; rfl, by rw [rfChkW, if_pos he, if_neg (ifn hb9)]; exact ⟨_, _, _, rfl, hn.mono RNod.mono hl1, hs.mono RSvc.mono hl1, hs1⟩⟩
end Go.Sod
