/-
  Batches, walked. Conditions: none.
-/
import Derived.Test.YthlffjbmmoglfaaD10
namespace Go.Sod
set_option linter.unusedVariables false
set_option linter.unusedSimpArgs false
set_option maxRecDepth 10000
set_option maxHeartbeats 4000000
def batN (m : Int) : Nat := (min (max m 1) 8).toNat
def batL (xs : List Cmd) (m : Int) : List Cmd := batTo xs (batN m) (chunkN xs.length (batN m))

theorem batches_walk {h : Hp} {v : Value} {xs : List Cmd} {m : Int} (hx : SlR h 17 RCmd v xs) : FH Go.Proofs.Try.prog 12 [v, .int .i64 m] h (fun r h' => SlR h' 17 RCmd r (batTo xs (batN m) (chunkN xs.length (batN m)))) := by
  refine FS.enter Go.Proofs.Try.func12 rfl rfl fun w0 => ?_
  obtain ⟨A, c, rfl⟩ := hx.form
  obtain ⟨n, hn1, hn8, hn⟩ : ∃ n : Nat, 1 ≤ n ∧ n ≤ 8 ∧ (n : Int) = min (max m 1) 8 := ⟨(min (max m 1) 8).toNat, by omega, by omega, by omega⟩
  have hnn : batN m = n := by unfold batN; omega
  rw [hnn]
  refine .seq (.text (.as_ rfl rfl (.done (.thenN ?_))))
  refine .seq (.text (.alloc (cs := [_]) rfl rfl rfl fun b5 => .done (.thenN ?_)))
  refine .seq (.seq (.text (.mv rfl rfl (.mv rfl rfl (.maxI rfl rfl rfl (.minI rfl rfl rfl ?_))))))
  rw [← hn]
  refine ?_
  refine .callH rfl rfl (chunk_walk hx (by omega)) rfl rfl fun u11 h11 hl11 hu11 => ?_
  obtain ⟨B2, B3, rfl, hB2, hB3⟩ := hu11
  have hx := hx.mono RCmd.mono hl11
  refine .done (.thenN ?_)
  refine .block (?_)
  refine J.addE ?_
  refine J.front 1 rfl ?_
  refine J.range rfl rfl (chunk_it hx hn1 hn8 hB2 hB3) (by intro p hp; simp at hp; subst hp; exact Nat.le_of_ble_eq_true rfl) (by intro i hi; simp [chunksV]) (fun i h2 L2 => h11.le h2 ∧ ∃ lv ml, L2 = [one b5 (.cells ⟨[lv]⟩ 29 (0, 0)), ml] ∧ SlT ml h2 lv 17 42 RCmd (batTo xs n i)) (fun _ _ _ => False) ⟨Hp.le_refl _, _, _, rfl, SlT.nil _ 17 42 RCmd⟩ ?_ ?_ ?_
  ·
    rintro l i hi h1 L1 hle ⟨hle', lv, ml, rfl, hl⟩ w1
    have hiK : i < chunkN xs.length n := by simpa [chunksV] using hi
    have hin : i * n < xs.length := (chunkN_lt hn1).1 hiK
    have hE : chunkE xs.length n i = min (i * n + n) xs.length := rfl
    have hpart := (hx.mono RCmd.mono hle).cut (i := i * n) (j := chunkE xs.length n i) (by omega) (by omega)
    have hplen := chunkL_len (xs := xs) (n := n) (k := i)
    have hlenx := hx.len
    unfold maxL at hlenx
    have hKle := chunkN_le xs.length n hn1
    rw [show (chunksV (.slice A xs.length c) xs.length n)[i] = [cutV (.slice A xs.length c) 17 (i * n) (chunkE xs.length n i) (chunkE xs.length n i)] from by simp [chunksV]]
    replace hpart : SlR h1 17 RCmd (cutV (.slice A xs.length c) 17 (i * n) (chunkE xs.length n i) (chunkE xs.length n i)) (chunkL xs n i) := hpart
    generalize cutV (.slice A xs.length c) 17 (i * n) (chunkE xs.length n i) (chunkE xs.length n i) = pv at *
    obtain ⟨lA, lc, rfl⟩ := hl.form
    refine .text (.as_ rfl rfl (.done (.thenN ?_)))
    refine J.asgEnd fun w2 => ?_
    refine .block (.seq (.seq (.text (.mv rfl rfl (.len hpart rfl rfl rfl (.cmp rfl rfl rfl rfl (.done (.thenN ?_))))))))
    refine .cond rfl (fun hb4 => ?_) (fun hb4 => ?_)
    ·
      have hp1 : (chunkL xs n i).length = 1 := by simp [cmpI] at hb4; omega
      refine J.cut (ι := Value × Hp) (fun i2 => SlT i2.2 h1 i2.1 17 42 RCmd (batTo xs n (i + 1))) (fun i2 => []) (fun _ => h1) (fun i2 => [one b5 (.cells ⟨[i2.1]⟩ 29 (0, 0)), i2.2]) ?_ ?_
      ·
        refine .tree (.seq [(0, .read), (1, .pure), (2, .pure), (3, .read), (4, .pure), (5, .grow), (6, .mut), (7, .pure)] (.both (.seq [(8, .mut), (9, .mut)] .nil) (.seq [(9, .mut), (8, .mut)] .nil))) [942, 1017, 1009, 755, 878, 0, 0, 559, 0, 0] [0, 0, 2, 4, 1, 0, 63, 127, 255, 127] rfl (by kernel_rfl) (by kernel_rfl) ?_
        refine .tSeq (.ld rfl rfl rfl rfl (.mv rfl rfl (.ix (i := 0) hpart rfl rfl rfl (by omega) rfl (.ldE (i := 0) hpart (by omega) rfl rfl rfl fun vs19 hvs19 => ?_))))
        obtain ⟨hlen19, hone19⟩ := hvs19.form
        refine .lenT hl rfl rfl rfl (.bs (cmdV (cmd0 0 0) nilV nilV) rfl rfl rfl rfl (by decide) rfl rfl rfl fun b21 => .app1 (R := RCmd) (z := cmd0 0 0) rfl hl rfl rfl rfl rfl ⟨1, nilV, nilV, rfl, SlR.nil _ _ _, SlR.nil _ _ _⟩ (by rw [batTo_len]; unfold maxL; omega) rfl rfl fun v22 m22 hm22 => ?_)
        obtain ⟨A22, c22, rfl⟩ := hm22.form
        refine .ixT (i := (batTo xs n i).length) hm22 rfl rfl rfl (by simp) rfl (.done (.thenN ?_))
        refine .tBoth ?_ ?_
        ·
          refine .tSeq (.stE (z := (chunkL xs n i)[0]) hm22 (by simp) rfl rfl hlen19 hone19 hvs19 rfl fun m8 hm8 => ?_)
          rw [set_push] at hm8
          refine .stS rfl rfl rfl rfl (.done (.thenN ?_))
          refine .tNil (.thenN ?_)
          refine J.dropF 1 (J.mid (_, m8) ?_ (.nil _) rfl rfl)
          show SlT m8 h1 _ 17 42 RCmd (batTo xs n (i + 1))
          rw [batTo_s, batch, if_pos hp1, show (chunkL xs n i).headD (cmd0 0 0) = (chunkL xs n i)[0] from headD_get (by omega)]
          exact hm8
        refine .tSeq (.stS rfl rfl rfl rfl (.stE (z := (chunkL xs n i)[0]) hm22 (by simp) rfl rfl hlen19 hone19 hvs19 rfl fun m8 hm8 => ?_))
        rw [set_push] at hm8
        refine .done (.thenN ?_)
        refine .tNil (.thenN ?_)
        refine J.dropF 1 (J.mid (_, m8) ?_ (.nil _) rfl rfl)
        show SlT m8 h1 _ 17 42 RCmd (batTo xs n (i + 1))
        rw [batTo_s, batch, if_pos hp1, show (chunkL xs n i).headD (cmd0 0 0) = (chunkL xs n i)[0] from headD_get (by omega)]
        exact hm8
      ·
        rintro ⟨v5, m5⟩ hm5
        dsimp only at hm5 ⊢
        refine .exit (.thenE (.blkHit ?_))
        exact J.roundN ⟨hle', _, _, rfl, hm5⟩
    ·
      have hp1 : ¬ (chunkL xs n i).length = 1 := by simp [cmpI] at hb4; omega
      refine .skip (.thenN ?_)
      refine .tree (.seq [(0, .read), (1, .pure), (4, .pure)] (.both (.seq [(2, .grow), (3, .pure), (5, .grow), (6, .mut), (7, .pure)] (.both (.seq [(8, .mut), (9, .mut)] .nil) (.seq [(9, .mut), (8, .mut)] .nil))) (.seq [(5, .grow), (2, .grow), (3, .pure), (6, .mut), (7, .pure)] (.both (.seq [(8, .mut), (9, .mut)] .nil) (.seq [(9, .mut), (8, .mut)] .nil))))) [942, 1017, 0, 755, 878, 0, 0, 559, 0, 0] [0, 0, 2, 4, 1, 0, 63, 127, 255, 127] rfl (by kernel_rfl) (by kernel_rfl) ?_
      refine .tSeq (.ld rfl rfl rfl rfl (.mv rfl rfl (.lenT hl rfl rfl rfl (.done (.thenN ?_)))))
      refine .tBoth ?_ ?_
      ·
        refine .tSeq (.callH rfl rfl (cloneC hpart) rfl rfl fun u26 h26 hl26 hu26 => ?_)
        have hl := hl.mono RCmd.mono hl26
        obtain ⟨uA, uc, rfl⟩ := hu26.form
        refine .bld [_, _, _, _, _, _, _, _, _, _, _, _, _, _, _, _, _] rfl (by rfl) rfl ?_
        refine .bs (cmdV (cmd0 0 0) nilV nilV) rfl rfl rfl rfl (by decide) rfl rfl rfl fun b29 => .app1 (R := RCmd) (z := cmd0 0 0) rfl hl rfl rfl rfl rfl ⟨1, nilV, nilV, rfl, SlR.nil _ _ _, SlR.nil _ _ _⟩ (by rw [batTo_len]; unfold maxL; omega) rfl rfl fun v30 m30 hm30 => ?_
        obtain ⟨A30, c30, rfl⟩ := hm30.form
        refine .ixT (i := (batTo xs n i).length) hm30 rfl rfl rfl (by simp) rfl (.done (.thenN ?_))
        refine .tBoth ?_ ?_
        ·
          refine .tSeq (.stE (z := { cmd0 18 0 with subs := chunkL xs n i }) hm30 (by simp) rfl rfl (by rfl) (by rfl) (batch_txn hu26) rfl fun m8 hm8 => ?_)
          rw [set_push] at hm8
          refine .stS rfl rfl rfl rfl (.done (.thenN ?_))
          refine .tNil (.blkN ?_)
          refine J.dropF 1 (J.roundN ⟨Hp.le_trans hle' hl26, _, _, rfl, ?_⟩)
          rw [batTo_s, batch, if_neg hp1]
          exact hm8
        refine .tSeq (.stS rfl rfl rfl rfl (.stE (z := { cmd0 18 0 with subs := chunkL xs n i }) hm30 (by simp) rfl rfl (by rfl) (by rfl) (batch_txn hu26) rfl fun m8 hm8 => ?_))
        rw [set_push] at hm8
        refine .done (.thenN ?_)
        refine .tNil (.blkN ?_)
        refine J.dropF 1 (J.roundN ⟨Hp.le_trans hle' hl26, _, _, rfl, ?_⟩)
        rw [batTo_s, batch, if_neg hp1]
        exact hm8
      refine .tSeq (.bs (cmdV (cmd0 0 0) nilV nilV) rfl rfl rfl rfl (by decide) rfl rfl rfl fun b29 => ?_)
      refine .callH rfl rfl (cloneC hpart) rfl rfl fun u26 h26 hl26 hu26 => ?_
      have hl := hl.mono RCmd.mono hl26
      obtain ⟨uA, uc, rfl⟩ := hu26.form
      refine .bld [_, _, _, _, _, _, _, _, _, _, _, _, _, _, _, _, _] rfl (by rfl) rfl ?_
      refine .app1 (R := RCmd) (z := cmd0 0 0) rfl hl rfl rfl rfl rfl ⟨1, nilV, nilV, rfl, SlR.nil _ _ _, SlR.nil _ _ _⟩ (by rw [batTo_len]; unfold maxL; omega) rfl rfl fun v30 m30 hm30 => ?_
      obtain ⟨A30, c30, rfl⟩ := hm30.form
      refine .ixT (i := (batTo xs n i).length) hm30 rfl rfl rfl (by simp) rfl (.done (.thenN ?_))
      refine .tBoth ?_ ?_
      ·
        refine .tSeq (.stE (z := { cmd0 18 0 with subs := chunkL xs n i }) hm30 (by simp) rfl rfl (by rfl) (by rfl) (batch_txn hu26) rfl fun m8 hm8 => ?_)
        rw [set_push] at hm8
        refine .stS rfl rfl rfl rfl (.done (.thenN ?_))
        refine .tNil (.blkN ?_)
        refine J.dropF 1 (J.roundN ⟨Hp.le_trans hle' hl26, _, _, rfl, ?_⟩)
        rw [batTo_s, batch, if_neg hp1]
        exact hm8
      refine .tSeq (.stS rfl rfl rfl rfl (.stE (z := { cmd0 18 0 with subs := chunkL xs n i }) hm30 (by simp) rfl rfl (by rfl) (by rfl) (batch_txn hu26) rfl fun m8 hm8 => ?_))
      rw [set_push] at hm8
      refine .done (.thenN ?_)
      refine .tNil (.blkN ?_)
      refine J.dropF 1 (J.roundN ⟨Hp.le_trans hle' hl26, _, _, rfl, ?_⟩)
      rw [batTo_s, batch, if_neg hp1]
      exact hm8
  ·
    rintro D h1 L1 hle ⟨hle', lv, ml, rfl, hl⟩
    rw [show (chunksV (.slice A xs.length c) xs.length n).length = chunkN xs.length n from by simp [chunksV]] at hl
    obtain ⟨lA, lc, rfl⟩ := hl.form
    refine (.blkN (.thenN ?_))
    refine .seq (.text (.ld rfl rfl rfl rfl (.as_ rfl rfl (.done (.thenN ?_)))))
    refine .ret ?_
    refine J.unmark (J.front 2 rfl (J.frz hl RCmd.mono fun h' hl' hs => J.retH rfl hs))
  ·
    exact fun D c h1 L1 _ hf => hf.elim
end Go.Sod
