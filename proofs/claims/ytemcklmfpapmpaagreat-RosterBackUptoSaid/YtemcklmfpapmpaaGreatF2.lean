/-
  The document's roster: Node, walked. Conditions: none.
-/
import Derived.Test.YtemcklmfpapmpaaGreatF1
namespace Go.Sod
set_option linter.unusedVariables false
set_option linter.unusedSimpArgs false
set_option maxRecDepth 10000
set_option maxHeartbeats 4000000
theorem rfnode_walk {wb : Nat} {h m : Hp} {W : Rrf} {n ix : Int} {addr : ByteArray} (ht : Rb m h wb W) (hw : RfWf W) : FM Go.Proofs.Tryz.prog 26 [.pointer (some ⟨wb, 0, none⟩), .int .i64 n, .string addr, .int .u64 ix] h m (fun v h' m' => v = .int .i64 (rfNodeE W n addr) ∧ Rb m' h' wb (rfNodeW W n addr ix)) := by
  refine FS.enter Go.Proofs.Tryz.func26 rfl rfl fun w0 => ?_
  obtain ⟨nv, sv, cv, rfl, hn, hs, hc⟩ := ht
  obtain ⟨nA, nc, rfl⟩ := hn.form
  obtain ⟨sA, sc, rfl⟩ := hs.form
  obtain ⟨cA, cc, rfl⟩ := hc.form
  unfold rfV
  refine .seq (.text (.as_ rfl rfl (.done (.thenN ?_))))
  refine .seq (.seq (.text (.mv rfl rfl (.cmp rfl rfl rfl rfl (.mv rfl rfl (.or (d := 18) (g := 15) _ _ (take_drop 3) rfl rfl (fun hb1_3 => .guard rfl rfl rfl rfl (.mv rfl rfl (.guard rfl rfl rfl rfl (.cmp rfl rfl rfl rfl (.pick rfl rfl rfl rfl ((.done (.thenN (.midB rfl))))))))) (.guardNo rfl rfl rfl rfl rfl rfl (.guardNo rfl rfl rfl rfl rfl rfl (.pick rfl rfl rfl rfl ((.done (.thenN (.midB rfl))))))) (.done (.thenN ?_))))))))
  refine .cond rfl (fun hb1 => ?_) (fun hb1 => ?_)
  ·
    refine .seq (.text (.as_ rfl rfl (.done (.thenN ?_))))
    refine .ret (.thenR ?_)
    exact J.retTmp rfl (List.Sublist.refl _) ⟨_, rfl, by rw [rfNodeE, if_pos hb1]; rfl, by rw [rfNodeW, if_pos hb1]; exact ⟨_, _, _, rfl, hn, hs, hc⟩⟩
  ·
    refine .skip (.thenN ?_)
    refine .seq (.seq (.text (.mv rfl rfl (.lenS rfl rfl rfl (.cmp rfl rfl rfl rfl (.done (.thenN ?_)))))))
    refine .cond rfl (fun hb3 => ?_) (fun hb3 => ?_)
    ·
      refine .seq (.text (.as_ rfl rfl (.done (.thenN ?_))))
      refine .ret (.thenR ?_)
      exact J.retTmp rfl (List.Sublist.refl _) ⟨_, rfl, by rw [rfNodeE, if_neg (ifn hb1), if_pos hb3]; rfl, by rw [rfNodeW, if_neg (ifn hb1), if_pos hb3]; exact ⟨_, _, _, rfl, hn, hs, hc⟩⟩
    ·
      refine .skip (.thenN ?_)
      refine .seq (.seq (.draw [(0, .pure), (1, .pure), (2, .grow), (3, .pure), (4, .pure), (5, .pure), (6, .pure), (7, .pure), (8, .read), (9, .pure), (10, .pure), (11, .pure), (12, .pure), (13, .read), (14, .pure), (15, .pure)] rfl (by kernel_rfl) (.mv rfl rfl (.mv rfl rfl (?_)))))
      refine .callR rfl rfl (rfthere_walk (W := W) hn hs) rfl rfl (.not rfl rfl (.mv rfl rfl (.and (d := 37) (g := 26) _ _ (take_drop 11) rfl rfl (fun hb5_5 => .guard rfl rfl rfl rfl (.mv rfl rfl (.guard rfl rfl rfl rfl (.nilOk rfl rfl (.guard rfl rfl rfl rfl (.fa rfl rfl (.guard rfl rfl rfl rfl (.ld rfl rfl rfl rfl (.guard rfl rfl rfl rfl (.len hn rfl rfl rfl (.guard rfl rfl rfl rfl (.mv rfl rfl (.guard rfl rfl rfl rfl (.nilOk rfl rfl (.guard rfl rfl rfl rfl (.fa rfl rfl (.guard rfl rfl rfl rfl (.ld rfl rfl rfl rfl (.guard rfl rfl rfl rfl (.cmp rfl rfl rfl rfl (.pick rfl rfl rfl rfl ((.done (.thenN (.midB rfl))))))))))))))))))))))))) (.guardNo rfl rfl rfl rfl rfl rfl (.guardNo rfl rfl rfl rfl rfl rfl (.guardNo rfl rfl rfl rfl rfl rfl (.guardNo rfl rfl rfl rfl rfl rfl (.guardNo rfl rfl rfl rfl rfl rfl (.guardNo rfl rfl rfl rfl rfl rfl (.guardNo rfl rfl rfl rfl rfl rfl (.guardNo rfl rfl rfl rfl rfl rfl (.guardNo rfl rfl rfl rfl rfl rfl (.guardNo rfl rfl rfl rfl rfl rfl (.pick rfl rfl rfl rfl ((.done (.thenN (.midB rfl))))))))))))))) (.done (.thenN ?_)))))
      refine .cond rfl (fun hb5 => ?_) (fun hb5 => ?_)
      ·
        refine .seq (.text (.as_ rfl rfl (.done (.thenN ?_))))
        refine .ret (.thenR ?_)
        exact J.retTmp rfl (List.Sublist.refl _) ⟨_, rfl, by rw [rfNodeE, if_neg (ifn hb1), if_neg (ifn hb3), if_pos hb5]; rfl, by rw [rfNodeW, if_neg (ifn hb1), if_neg (ifn hb3), if_pos hb5]; exact ⟨_, _, _, rfl, hn, hs, hc⟩⟩
      ·
        refine .skip (.thenN ?_)
        refine .seq (.text (.mv rfl rfl (.mv rfl rfl (.mv rfl rfl (.mv rfl rfl (.bld [_, _, _, _] rfl (by rfl) rfl ?_))))))
        refine .alloc (cs := [_, _, _, _]) rfl rfl rfl fun b9 => .stW rfl rfl rfl rfl rfl rfl (.done (.thenN ?_))
        refine .seq (.text (.as_ rfl rfl (.done (.thenN ?_))))
        refine .seq (.text (.as_ rfl rfl (.done (.thenN ?_))))
        refine .seq (.seq (.text (.as_ rfl rfl (.done (.thenN ?_)))))
        refine .block (?_)
        refine J.addE ?_
        refine J.loop (ι := Nat × Value × Hp × Int) (fun i => i.1 ≤ W.nodes.length ∧ SlT i.2.2.1 h i.2.1 4 49 RNod ((W.nodes.take i.1).foldl (stepI (sameN n) (gtN n) setMN) ([], false, (⟨n, addr, ix, ix⟩ : Nod))).1 ∧ ((W.nodes.take i.1).foldl (stepI (sameN n) (gtN n) setMN) ([], false, (⟨n, addr, ix, ix⟩ : Nod))).2.2 = ⟨n, addr, i.2.2.2, ix⟩) (fun i => [(0, .pointer (some ⟨wb, 0, none⟩)), (1, .int .i64 n), (3, .int .u64 ix), (9, .pointer (some ⟨b9, 0, none⟩)), (10, i.2.1), (11, .bool ((W.nodes.take i.1).foldl (stepI (sameN n) (gtN n) setMN) ([], false, (⟨n, addr, ix, ix⟩ : Nod))).2.1), (12, .int .i64 (i.1 : Int))]) (fun _ => h) (fun i => [i.2.2.1, one b9 (.cells ⟨nodV ⟨n, addr, i.2.2.2, ix⟩⟩ 49 (0, 0)), one wb (.cells ⟨rfV W (.slice nA W.nodes.length nc) (.slice sA W.services.length sc) (.slice cA W.checks.length cc)⟩ 68 (0, 0))]) (fun i => W.nodes.length - i.1) (0, .slice none 0 0, Hp.emp, ix) ⟨by simp, SlT.nil _ _ _ _, rfl⟩ (.cons rfl (.cons rfl (.cons rfl (.cons rfl (.cons rfl (.cons rfl (.cons rfl (.nil _)))))))) rfl rfl ?_
        rintro ⟨k, lv, ml, q⟩ ⟨hk0, hl, hcur⟩
        dsimp only [nodV, rfV] at hk0 hl hcur ⊢
        have hln := stepI_len' (same := sameN n) (gt := gtN n) (setM := setMN) (W.nodes.take k) (⟨n, addr, ix, ix⟩ : Nod)
        rw [List.length_take] at hln
        have hw0 := hw.ln
        generalize hst : ((W.nodes.take k).foldl (stepI (sameN n) (gtN n) setMN) ([], false, (⟨n, addr, ix, ix⟩ : Nod))) = st at hl hcur hln ⊢
        refine .seq (.seq (.text (.mv rfl rfl (.mv rfl rfl (.nilOk rfl rfl (.fa rfl rfl (.ld rfl rfl rfl rfl (.len hn rfl rfl rfl (.cmp rfl rfl rfl rfl (.done (.thenN ?_)))))))))))
        refine .cond rfl (fun hb11 => ?_) (fun hb11 => ?_)
        ·
          have hk : k < W.nodes.length := by simp [cmpI] at hb11; omega
          have hstep : (W.nodes.take (k + 1)).foldl (stepI (sameN n) (gtN n) setMN) ([], false, (⟨n, addr, ix, ix⟩ : Nod)) = stepI (sameN n) (gtN n) setMN st W.nodes[k] := by rw [foldl_take_succ hk, hst]
          refine .skip (.thenN ?_)
          refine .seq (.block (.seq (.seq (.text (.mv rfl rfl (.nilOk rfl rfl (.fa rfl rfl (.ld rfl rfl rfl rfl (.mv rfl rfl (.ix (i := k) hn rfl rfl rfl hk rfl (.faE rfl (hn.ne (by omega)) rfl (.ldG (.int .i64 W.nodes[k].node) hn hk rfl (fun vs e => by obtain rfl := e; rfl) rfl rfl (.mv rfl rfl (.cmp rfl rfl rfl rfl (.done (.thenN ?_))))))))))))))))
          refine .cond rfl (fun hb13 => ?_) (fun hb13 => ?_)
          ·
            replace hb13 : sameN n W.nodes[k] = true := hb13
            refine .seq (.text (.mv rfl rfl (.nilOk rfl rfl (.fa rfl rfl (.ld rfl rfl rfl rfl (.mv rfl rfl (.ix (i := k) hn rfl rfl rfl hk rfl (.faE rfl (hn.ne (by omega)) rfl (.ldG (.int .u64 W.nodes[k].made) hn hk rfl (fun vs e => by obtain rfl := e; rfl) rfl rfl (.fa rfl rfl (.stS rfl rfl rfl rfl (.done (.thenN ?_)))))))))))))
            refine .seq (.text (.mv rfl rfl (.ldW rfl rfl rfl rfl (.bs [_, _, _, _] rfl rfl rfl rfl (by decide) rfl rfl rfl fun b73 => ?_))))
            refine .app1 (z := (⟨n, addr, W.nodes[k].made, ix⟩ : Nod)) rfl hl rfl rfl rfl rfl rfl (by unfold maxL; omega) rfl rfl fun v74 m74 hm74 => .as_ rfl rfl (.done (.thenN ?_))
            refine .seq (.text (.as_ rfl rfl (.done (.thenN ?_))))
            refine .exit (.thenE (.blkHit (.thenN ?_)))
            refine .text (.mv rfl rfl (.inc rfl rfl (by omega) rfl (.as_ rfl rfl (.done (.thenN ?_)))))
            refine J.dropF 1 (J.again (k + 1, v74, m74, W.nodes[k].made) (by dsimp only; omega) ⟨hk, ?_, ?_⟩ (.cons rfl (.cons rfl (.cons rfl (.cons rfl (.cons rfl (.cons ?_ (.cons rfl (.nil _)))))))) rfl rfl)
            · dsimp only; rw [hstep, stepI, if_pos hb13, setMN, hcur]; exact hm74
            · dsimp only; rw [hstep, stepI, if_pos hb13, setMN, hcur]
            · dsimp only; rw [hstep, stepI, if_pos hb13]; rfl
          ·
            replace hb13 : sameN n W.nodes[k] = false := hb13
            refine .skip (.thenN ?_)
            refine J.cut (ι := Value × Hp) (fun i => SlT i.2 h i.1 4 49 RNod (if (!st.2.1 && gtN n W.nodes[k]) = true then st.1 ++ [⟨n, addr, q, ix⟩] else st.1)) (fun i => [(0, .pointer (some ⟨wb, 0, none⟩)), (1, .int .i64 n), (3, .int .u64 ix), (9, .pointer (some ⟨b9, 0, none⟩)), (10, i.1), (11, .bool (if (!st.2.1 && gtN n W.nodes[k]) = true then true else st.2.1)), (12, .int .i64 (k : Int))]) (fun _ => h) (fun i => [i.2, one b9 (.cells ⟨nodV ⟨n, addr, q, ix⟩⟩ 49 (0, 0)), one wb (.cells ⟨rfV W (.slice nA W.nodes.length nc) (.slice sA W.services.length sc) (.slice cA W.checks.length cc)⟩ 68 (0, 0))]) ?_ ?_
            ·
              refine .seq (.text (.mv rfl rfl (.not rfl rfl (.mv rfl rfl (.and (d := 88) (g := 77) _ _ (take_drop 11) rfl rfl (fun hb17_3 => .guard rfl rfl rfl rfl (.mv rfl rfl (.guard rfl rfl rfl rfl (.nilOk rfl rfl (.guard rfl rfl rfl rfl (.fa rfl rfl (.guard rfl rfl rfl rfl (.ld rfl rfl rfl rfl (.guard rfl rfl rfl rfl (.mv rfl rfl (.guard rfl rfl rfl rfl (.ix (i := k) hn rfl rfl rfl hk rfl (.guard rfl rfl rfl rfl (.faE rfl (hn.ne (by omega)) rfl (.guard rfl rfl rfl rfl (.ldG (.int .i64 W.nodes[k].node) hn hk rfl (fun vs e => by obtain rfl := e; rfl) rfl rfl (.guard rfl rfl rfl rfl (.mv rfl rfl (.guard rfl rfl rfl rfl (.cmp rfl rfl rfl rfl (.pick rfl rfl rfl rfl ((.done (.thenN (.midB rfl))))))))))))))))))))))))) (.guardNo rfl rfl rfl rfl rfl rfl (.guardNo rfl rfl rfl rfl rfl rfl (.guardNo rfl rfl rfl rfl rfl rfl (.guardNo rfl rfl rfl rfl rfl rfl (.guardNo rfl rfl rfl rfl rfl rfl (.guardNo rfl rfl rfl rfl rfl rfl (.guardNo rfl rfl rfl rfl rfl rfl (.guardNo rfl rfl rfl rfl rfl rfl (.guardNo rfl rfl rfl rfl rfl rfl (.guardNo rfl rfl rfl rfl rfl rfl (.pick rfl rfl rfl rfl ((.done (.thenN (.midB rfl))))))))))))))) (.done (.thenN ?_)))))))
              refine .cond rfl (fun hb17 => ?_) (fun hb17 => ?_)
              ·
                refine .seq (.text (.mv rfl rfl (.ldW rfl rfl rfl rfl (.bs [_, _, _, _] rfl rfl rfl rfl (by decide) rfl rfl rfl fun b91 => ?_))))
                refine .app1 (z := (⟨n, addr, q, ix⟩ : Nod)) rfl hl rfl rfl rfl rfl rfl (by unfold maxL; omega) rfl rfl fun v92 m92 hm92 => .as_ rfl rfl (.done (.thenN ?_))
                refine .text (.as_ rfl rfl (.done (.thenN ?_)))
                refine J.dropF 1 (J.mid (v92, m92) ?_ (.cons rfl (.cons rfl (.cons rfl (.cons rfl (.cons rfl (.cons ?_ (.cons rfl (.nil _)))))))) rfl rfl)
                · dsimp only; rw [if_pos (show (!st.2.1 && gtN n W.nodes[k]) = true from hb17)]; exact hm92
                · rw [if_pos (show (!st.2.1 && gtN n W.nodes[k]) = true from hb17)]; rfl
              ·
                refine .skip (.thenN ?_)
                refine J.mid (lv, ml) ?_ (.cons rfl (.cons rfl (.cons rfl (.cons rfl (.cons rfl (.cons ?_ (.cons rfl (.nil _)))))))) rfl rfl
                · dsimp only; rw [if_neg (ifn (show (!st.2.1 && gtN n W.nodes[k]) = false from hb17))]; exact hl
                · rw [if_neg (ifn (show (!st.2.1 && gtN n W.nodes[k]) = false from hb17))]; rfl
            ·
              rintro ⟨lv, ml⟩ hl
              dsimp only at hl ⊢
              have hln2 : (if (!st.2.1 && gtN n W.nodes[k]) = true then st.1 ++ [⟨n, addr, q, ix⟩] else st.1).length ≤ st.1.length + 1 := by split <;> simp
              refine .text (.mv rfl rfl (.mv rfl rfl (.nilOk rfl rfl (.fa rfl rfl (.ld rfl rfl rfl rfl (.mv rfl rfl (.ix (i := k) hn rfl rfl rfl hk rfl (.ldE hn hk rfl rfl rfl fun vs hvs => ?_))))))))
              obtain rfl := hvs
              refine .bs [_, _, _, _] rfl rfl rfl rfl (by decide) rfl rfl rfl fun b101 => ?_
              refine .app1 (z := W.nodes[k]) rfl hl rfl rfl rfl rfl rfl (by unfold maxL; omega) rfl rfl fun v102 m102 hm102 => .as_ rfl rfl (.done (.blkN (.thenN ?_)))
              refine .text (.mv rfl rfl (.inc rfl rfl (by omega) rfl (.as_ rfl rfl (.done (.thenN ?_)))))
              refine J.dropF 1 (J.again (k + 1, v102, m102, q) (by dsimp only; omega) ⟨hk, ?_, ?_⟩ (.cons rfl (.cons rfl (.cons rfl (.cons rfl (.cons rfl (.cons ?_ (.cons rfl (.nil _)))))))) rfl rfl)
              · dsimp only; rw [hstep, stepI, if_neg (ifn hb13)]
                by_cases hg : (!st.2.1 && gtN n W.nodes[k]) = true
                · rw [if_pos hg] at hm102 ⊢; rw [hcur]; simpa using hm102
                · rw [if_neg hg] at hm102 ⊢; exact hm102
              · dsimp only; rw [hstep, stepI, if_neg (ifn hb13)]; split <;> exact hcur
              · dsimp only; rw [hstep, stepI, if_neg (ifn hb13)]; split <;> rfl
        ·
          have hk : k = W.nodes.length := by simp [cmpI] at hb11; omega
          subst hk
          rw [List.take_length] at hst
          refine .exit (.thenE (.thenE (.blkHit (.thenN ?_))))
          refine J.cut (ι := Value × Hp) (fun i => SlT i.2 h i.1 4 49 RNod (insI (sameN n) (gtN n) setMN W.nodes ⟨n, addr, ix, ix⟩)) (fun i => [(0, .pointer (some ⟨wb, 0, none⟩)), (3, .int .u64 ix), (10, i.1)]) (fun _ => h) (fun i => [i.2, one wb (.cells ⟨rfV W (.slice nA W.nodes.length nc) (.slice sA W.services.length sc) (.slice cA W.checks.length cc)⟩ 68 (0, 0))]) ?_ ?_
          ·
            refine .seq (.text (.mv rfl rfl (.not rfl rfl (.done (.thenN ?_)))))
            refine .cond rfl (fun hb21 => ?_) (fun hb21 => ?_)
            ·
              refine .text (.mv rfl rfl (.ldW rfl rfl rfl rfl (.bs [_, _, _, _] rfl rfl rfl rfl (by decide) rfl rfl rfl fun b107 => ?_)))
              refine .app1 (z := (⟨n, addr, q, ix⟩ : Nod)) rfl hl rfl rfl rfl rfl rfl (by unfold maxL; omega) rfl rfl fun v108 m108 hm108 => .as_ rfl rfl (.done (.thenN ?_))
              refine J.dropF 1 (J.drop (List.Sublist.cons_cons _ (List.sublist_cons_self _ _)) (J.mid (v108, m108) ?_ (.cons rfl (.cons rfl (.cons rfl (.nil _)))) rfl rfl))
              have h21 : st.2.1 = false := by simpa using hb21
              dsimp only; rw [insI, hst, h21, if_neg (by decide), hcur]; exact hm108
            ·
              refine .skip (.thenN ?_)
              refine J.drop (List.Sublist.cons_cons _ (List.sublist_cons_self _ _)) (J.mid (lv, ml) ?_ (.cons rfl (.cons rfl (.cons rfl (.nil _)))) rfl rfl)
              have h21 : st.2.1 = true := by simpa using hb21
              dsimp only; rw [insI, hst, h21, if_pos rfl]; exact hl
          ·
            rintro ⟨lv, ml⟩ hl
            dsimp only [rfV] at hl ⊢
            refine J.frz hl RNod.mono fun h1 hl1 hs1 => ?_
            obtain ⟨lA, lc, rfl⟩ := hs1.form
            refine .seq (.text (.mv rfl rfl (.mv rfl rfl (.nilOk rfl rfl (.fa rfl rfl (.stS rfl rfl rfl rfl (.done (.thenN ?_))))))))
            refine .seq (.text (.mv rfl rfl (.mv rfl rfl (?_))))
            refine .callM rfl rfl (raise0_walk (a := .int .i64 W.most) (b := .slice lA (insI (sameN n) (gtN n) setMN W.nodes ⟨n, addr, ix, ix⟩).length lc) (c := (.slice sA W.services.length sc)) (d := (.slice cA W.checks.length cc)) (l0 := W.l0) (l1 := W.l1) (l2 := W.l2)) rfl rfl fun u115 h115 m115 hl115 hu115 => ?_
            obtain ⟨rfl, rfl, rfl⟩ := hu115
            refine .done (.thenN ?_)
            refine .seq (.text (.as_ rfl rfl (.done (.thenN ?_))))
            refine .ret ?_
            exact J.retTmp rfl (List.Sublist.refl _) ⟨_, rfl, by rw [rfNodeE, if_neg (ifn hb1), if_neg (ifn hb3), if_neg (ifn hb5)]; rfl, by rw [rfNodeW, if_neg (ifn hb1), if_neg (ifn hb3), if_neg (ifn hb5)]; exact ⟨_, _, _, rfl, hs1, hs.mono RSvc.mono hl1, hc.mono RChk.mono hl1⟩⟩
end Go.Sod
