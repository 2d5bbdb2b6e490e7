/-
  The document's Batches, and the law, walked. Conditions: none.
-/
import Derived.Test.YthlffjbmmoglfaaD11
namespace Go.Sod
set_option linter.unusedVariables false
set_option linter.unusedSimpArgs false
set_option maxRecDepth 10000
set_option maxHeartbeats 4000000
theorem refbat_walk {h : Hp} {v : Value} {xs : List Cmd} {m : Int} (hx : SlR h 17 RCmd v xs) : FH Go.Proofs.Try.prog 13 [v, .int .i64 m] h (fun r h' => SlR h' 17 RCmd r (batTo xs (batN m) (chunkN xs.length (batN m)))) := by
  refine FS.enter Go.Proofs.Try.func13 rfl rfl fun w0 => ?_
  obtain ⟨A, c, rfl⟩ := hx.form
  obtain ⟨n, hn1, hn8, hn⟩ : ∃ n : Nat, 1 ≤ n ∧ n ≤ 8 ∧ (n : Int) = min (max m 1) 8 := ⟨(min (max m 1) 8).toNat, by omega, by omega, by omega⟩
  have hnn : batN m = n := by unfold batN; omega
  rw [hnn]
  refine .seq (.text (.as_ rfl rfl (.done (.thenN ?_))))
  refine J.cut (ι := Unit) (fun _ => True) (fun _ => [(0, .slice A xs.length c), (1, .int .i64 (max m 1))]) (fun _ => h) (fun _ => []) ?_ ?_
  ·
    refine .seq (.text (.mv rfl rfl (.cmp rfl rfl rfl rfl (.done (.thenN ?_)))))
    refine .cond rfl (fun hb1 => ?_) (fun hb1 => ?_)
    ·
      have e : max m 1 = 1 := by simp [cmpI] at hb1; omega
      refine .text (.as_ rfl rfl (.done (.thenN ?_)))
      exact J.mid () trivial (.cons rfl (.cons (by rw [e]; rfl) (.nil _))) rfl rfl
    ·
      have e : max m 1 = m := by simp [cmpI] at hb1; omega
      refine .skip (.thenN ?_)
      exact J.mid () trivial (.cons rfl (.cons (by rw [e]; rfl) (.nil _))) rfl rfl
  ·
    rintro _ _
    refine J.cut (ι := Unit) (fun _ => True) (fun _ => [(0, .slice A xs.length c), (1, .int .i64 (n : Int))]) (fun _ => h) (fun _ => []) ?_ ?_
    ·
      refine .seq (.text (.mv rfl rfl (.cmp rfl rfl rfl rfl (.done (.thenN ?_)))))
      refine .cond rfl (fun hb3 => ?_) (fun hb3 => ?_)
      ·
        have e : (n : Int) = 8 := by simp [cmpI] at hb3; omega
        refine .text (.as_ rfl rfl (.done (.thenN ?_)))
        exact J.mid () trivial (.cons rfl (.cons (by rw [e]; rfl) (.nil _))) rfl rfl
      ·
        have e : (n : Int) = max m 1 := by simp [cmpI] at hb3; omega
        refine .skip (.thenN ?_)
        exact J.mid () trivial (.cons rfl (.cons (by rw [e]; rfl) (.nil _))) rfl rfl
    ·
      rintro _ _
      refine J.addE ?_
      refine .seq (.text (.as_ rfl rfl (.done (.thenN ?_))))
      refine .seq (.seq (.text (.as_ rfl rfl (.done (.thenN ?_)))))
      refine .block (?_)
      have hlenx := hx.len
      unfold maxL at hlenx
      have hKle := chunkN_le xs.length n hn1
      refine J.loop (ι := Nat × Value × Hp) (fun i => i.1 ≤ chunkN xs.length n ∧ SlT i.2.2 h i.2.1 17 42 RCmd (batTo xs n i.1)) (fun i => [(0, .slice A xs.length c), (1, .int .i64 (n : Int)), (5, i.2.1), (6, .int .i64 ((i.1 * n : Nat) : Int))]) (fun i => h) (fun i => [i.2.2]) (fun i => chunkN xs.length n - i.1) (0, nilV, Hp.emp) ⟨Nat.zero_le _, SlT.nil h 17 42 RCmd⟩ (.cons rfl (.cons rfl (.cons rfl (.cons (by simp [gt]) (.nil _))))) rfl rfl ?_
      rintro ⟨k, lv, ml⟩ ⟨hk0, hl⟩
      dsimp only at hk0 hl ⊢
      refine .seq (.seq (.text (.mv rfl rfl (.mv rfl rfl (.len hx rfl rfl rfl (.cmp rfl rfl rfl rfl (.done (.thenN ?_))))))))
      refine .cond rfl (fun hb7 => ?_) (fun hb7 => ?_)
      ·
        have hkn : k * n < xs.length := by simp [cmpI] at hb7; omega
        have hkK : k < chunkN xs.length n := (chunkN_lt hn1).2 hkn
        have hE : chunkE xs.length n k = min (k * n + n) xs.length := rfl
        have hs1 : (k + 1) * n = k * n + n := Nat.succ_mul k n
        have hplen := chunkL_len (xs := xs) (n := n) (k := k)
        have hcl : chunkL xs n k = (xs.take (chunkE xs.length n k)).drop (k * n) := rfl
        generalize hp : k * n = p at *
        generalize hq : chunkE xs.length n k = q at *
        refine .skip (.thenN ?_)
        refine .seq (.block (.seq (.text (.mv rfl rfl (.mv rfl rfl (.ar (r := ((p + n : Nat) : Int)) rfl rfl (by show some _ = _; rw [wrap64_id (by omega) (by omega)]; congr 1) rfl (.as_ rfl rfl (.done (.thenN ?_)))))))))
        refine J.cut (ι := Unit) (fun _ => True) (fun _ => [(0, .slice A xs.length c), (1, .int .i64 (n : Int)), (5, lv), (6, .int .i64 (p : Int)), (7, .int .i64 (q : Int))]) (fun _ => h) (fun _ => [ml]) ?_ ?_
        ·
          refine .seq (.text (.mv rfl rfl (.mv rfl rfl (.len hx rfl rfl rfl (.cmp rfl rfl rfl rfl (.done (.thenN ?_)))))))
          refine .cond rfl (fun hb10 => ?_) (fun hb10 => ?_)
          ·
            have e : q = xs.length := by simp [cmpI] at hb10; omega
            refine .text (.mv rfl rfl (.len hx rfl rfl rfl (.as_ rfl rfl (.done (.thenN ?_)))))
            exact J.mid () trivial (.cons rfl (.cons rfl (.cons rfl (.cons rfl (.cons (by rw [e]; rfl) (.nil _)))))) rfl rfl
          ·
            have e : q = p + n := by simp [cmpI] at hb10; omega
            refine .skip (.thenN ?_)
            exact J.mid () trivial (.cons rfl (.cons rfl (.cons rfl (.cons rfl (.cons (by rw [e]; rfl) (.nil _)))))) rfl rfl
        ·
          rintro _ _
          refine .seq (.text (.mv rfl rfl (.mv rfl rfl (.inc rfl rfl (by omega) rfl (.cmp rfl rfl rfl rfl (.done (.thenN ?_)))))))
          refine .cond rfl (fun hb12 => ?_) (fun hb12 => ?_)
          ·
            have hp1 : (chunkL xs n k).length = 1 := by simp [cmpI] at hb12; omega
            refine .text (.mv rfl rfl (.mv rfl rfl (.mv rfl rfl (.ix (i := p) hx rfl rfl rfl (by omega) rfl (.ldE (i := p) hx (by omega) rfl rfl rfl fun vs36 hvs36 => ?_)))))
            obtain ⟨hlen36, hone36⟩ := hvs36.form
            refine .bs vs36 rfl (inTurn_one hlen36) rfl rfl (by decide) flatV_one rfl rfl fun b37 => .app1 (R := RCmd) (z := xs[p]) rfl hl rfl rfl hlen36 hone36 hvs36 (by rw [batTo_len]; unfold maxL; omega) rfl rfl fun v38 m38 hm38 => .as_ rfl rfl (.done (.blkN (.thenN ?_)))
            refine .text (.mv rfl rfl (.mv rfl rfl (.ar (r := (((k + 1) * n : Nat) : Int)) rfl rfl (by show some _ = _; rw [wrap64_id (by omega) (by omega)]; congr 1; omega) rfl (.as_ rfl rfl (.done (.thenN ?_))))))
            refine J.dropF 1 (J.again (k + 1, v38, m38) (by simp; omega) ⟨hkK, ?_⟩ (.cons rfl (.cons rfl (.cons rfl (.cons rfl (.nil _))))) rfl rfl)
            show SlT m38 h v38 17 42 RCmd (batTo xs n (k + 1))
            rw [batTo_s, batch, if_pos hp1, headD_get (by omega)]
            have e : (chunkL xs n k)[0]'(by omega) = xs[p] := by simp [hcl]
            rw [e]; exact hm38
          ·
            have hp1 : ¬ (chunkL xs n k).length = 1 := by simp [cmpI] at hb12; omega
            refine .text (.mv rfl rfl (.mv rfl rfl (.mv rfl rfl (.mv rfl rfl (.slR (i := p) (j' := q) hx rfl ⟨_, _, rfl, rfl⟩ ⟨_, _, rfl, rfl⟩ (by omega) (by omega) rfl fun v43 hv43 => ?_)))))
            rw [← hcl] at hv43
            obtain ⟨A43, c43, rfl⟩ := hv43.form
            refine .bld [_, _, _, _, _, _, _, _, _, _, _, _, _, _, _, _, _] rfl (by rfl) rfl ?_
            refine .bs [_, _, _, _, _, _, _, _, _, _, _, _, _, _, _, _, _] rfl rfl rfl rfl (by decide) rfl rfl rfl fun b45 => .app1 (R := RCmd) (z := { cmd0 18 0 with subs := chunkL xs n k }) rfl hl rfl rfl rfl rfl (batch_txn hv43) (by rw [batTo_len]; unfold maxL; omega) rfl rfl fun v46 m46 hm46 => .as_ rfl rfl (.done (.blkN (.thenN ?_)))
            refine .text (.mv rfl rfl (.mv rfl rfl (.ar (r := (((k + 1) * n : Nat) : Int)) rfl rfl (by show some _ = _; rw [wrap64_id (by omega) (by omega)]; congr 1; omega) rfl (.as_ rfl rfl (.done (.thenN ?_))))))
            refine J.dropF 1 (J.again (k + 1, v46, m46) (by simp; omega) ⟨hkK, ?_⟩ (.cons rfl (.cons rfl (.cons rfl (.cons rfl (.nil _))))) rfl rfl)
            show SlT m46 h v46 17 42 RCmd (batTo xs n (k + 1))
            rw [batTo_s, batch, if_neg hp1]
            exact hm46
      ·
        refine .exit (.thenE (.thenE (.blkHit (.thenN ?_))))
        refine .seq (.text (.mv rfl rfl (.as_ rfl rfl (.done (.thenN ?_)))))
        refine .ret ?_
        have hk' : ¬ k < chunkN xs.length n := fun h => by have := (chunkN_lt hn1).1 h; simp [cmpI] at hb7; omega
        obtain rfl : k = chunkN xs.length n := by omega
        refine J.frz hl RCmd.mono fun h' hl' hs => J.retH rfl hs

theorem diffbatches_walk {h : Hp} {v : Value} {xs : List Cmd} {m : Int} (hx : SlR h 17 RCmd v xs) : FH Go.Proofs.Try.prog 4 [v, .int .i64 m] h (fun r h' => r = .bool true) := by
  refine FS.enter Go.Proofs.Try.func4 rfl rfl fun w0 => ?_
  obtain ⟨A, c, rfl⟩ := hx.form
  refine .seq (.text (.as_ rfl rfl (.done (.thenN ?_))))
  refine J.cut (ι := Value) (fun i => SlR h 17 RCmd i (xs.take 60)) (fun i => [(0, i), (1, .int .i64 m)]) (fun _ => h) (fun _ => []) ?_ ?_
  ·
    refine .seq (.text (.mv rfl rfl (.len hx rfl rfl rfl (.cmp rfl rfl rfl rfl (.done (.thenN ?_))))))
    refine .cond rfl (fun hb1 => ?_) (fun hb1 => ?_)
    ·
      have hb : 60 < xs.length := by simp [cmpI] at hb1; omega
      refine .text (.mv rfl rfl (.slR (i := 0) (j' := 60) hx rfl rfl ⟨_, _, rfl, rfl⟩ (by omega) (by omega) rfl fun v9 hv9 => ?_))
      rw [List.drop_zero] at hv9
      refine .as_ rfl rfl (.done (.thenN ?_))
      exact J.mid _ hv9 (.cons rfl (.cons rfl (.nil _))) rfl rfl
    ·
      have hb : xs.length ≤ 60 := by simp [cmpI] at hb1; omega
      refine .skip (.thenN ?_)
      refine J.mid _ ?_ (.cons rfl (.cons rfl (.nil _))) rfl rfl
      rw [List.take_of_length_le hb]; exact hx
  ·
    intro v hx
    refine .seq (.text (.mv rfl rfl (.mv rfl rfl (?_))))
    refine .callH rfl rfl (batches_walk hx) rfl rfl fun u12 h12 hl12 hu12 => ?_
    have hx := hx.mono RCmd.mono hl12
    refine .mv rfl rfl (.mv rfl rfl (?_))
    refine .callH rfl rfl (refbat_walk hx) rfl rfl fun u15 h15 hl15 hu15 => ?_
    have hu12 := hu12.mono RCmd.mono hl15
    refine ?_
    refine .callH rfl rfl (cmds_walk hu12 hu15) rfl rfl fun u16 h16 hl16 hu16 => ?_
    subst hu16
    refine .mv rfl rfl (.guard rfl rfl rfl rfl (?_))
    refine .callH rfl rfl works_walk rfl rfl fun u18 h18 hl18 hu18 => ?_
    subst hu18
    refine .pick rfl rfl rfl rfl (.as_ rfl rfl (.done (.thenN ?_)))
    refine .ret ?_
    exact J.retH rfl rfl


section
variable {H : Type} {enc : TypeId × Value → H} {W : World} {bulk : DataW H → Nat}
theorem rdCmdF (B : Blk H bulk) : ∀ (fuel : Nat) (cs : List Value) (x : DataW H × List MemPlace), DataW.trod enc Go.Proofs.Try.prog W 0 (fun _ => true) true fuel 42 cs = some x → bulk x.1 ≤ maxL → ∃ a, RCmd (hp W) a cs ∧ cs.length = 17 ∧ cs.all oneV = true := by
  intro fuel
  induction fuel using Nat.strongRecOn with
  | _ fuel ih =>
  intro cs x h hb
  have hl := rd_len (f := 0) (n := 17) h
  match cs, hl with
  | [c0, c1, c2, c3, c4, c5, c6, c7, c8, c9, c10, c11, c12, c13, c14, c15, c16], _ =>
    obtain ⟨a0, h0, _⟩ := rd_fld (n := 1) (R := RI .i64) B 0 h hb Rd.int
    obtain ⟨a1, h1, _⟩ := rd_fld (n := 1) (R := RI .i64) B 1 h hb Rd.int
    obtain ⟨a2, h2, _⟩ := rd_fld (n := 1) (R := RI .i64) B 2 h hb Rd.int
    obtain ⟨a3, h3, _⟩ := rd_fld (n := 1) (R := RI .i64) B 3 h hb Rd.int
    obtain ⟨a4, h4, _⟩ := rd_fld (n := 1) (R := RS) B 4 h hb Rd.str
    obtain ⟨a5, h5, _⟩ := rd_fld (n := 1) (R := RS) B 5 h hb Rd.str
    obtain ⟨a6, h6, _⟩ := rd_fld (n := 1) (R := RS) B 6 h hb Rd.str
    obtain ⟨a7, h7, _⟩ := rd_fld (n := 1) (R := RS) B 7 h hb Rd.str
    obtain ⟨a8, h8, _⟩ := rd_fld (n := 1) (R := RS) B 8 h hb Rd.str
    obtain ⟨a9, h9, _⟩ := rd_fld (n := 1) (R := RS) B 9 h hb Rd.str
    obtain ⟨a10, h10, _⟩ := rd_fld (n := 1) (R := RS) B 10 h hb Rd.str
    obtain ⟨a11, h11, _⟩ := rd_fld (n := 1) (R := RS) B 11 h hb Rd.str
    obtain ⟨a13, h13, _⟩ := rd_fld (n := 1) (R := RB) B 13 h hb Rd.bool
    obtain ⟨a14, h14, _⟩ := rd_fld (n := 1) (R := RI .u64) B 14 h hb Rd.int
    obtain ⟨a15, h15, _⟩ := rd_fld (n := 1) (R := RI .u64) B 15 h hb Rd.int
    obtain ⟨a12, ⟨v12, h12, hs12⟩, _⟩ := rd_fld (n := 1) (R := RL 1 RS) B 12 h hb (Rd.slice B (by decide) Rd.str)
    obtain ⟨a16, ⟨v16, h16, hs16⟩, _⟩ := rd_fldF (n := 1) (R := RL 17 RCmd) B 16 h hb (fun n hn => RdF.slice B (by decide) (fun n' hn' cs x h hb => ih n' (by omega) cs x h hb))
    obtain rfl : c0 = .int .i64 a0 := by simpa [RI] using h0
    obtain rfl : c1 = .int .i64 a1 := by simpa [RI] using h1
    obtain rfl : c2 = .int .i64 a2 := by simpa [RI] using h2
    obtain rfl : c3 = .int .i64 a3 := by simpa [RI] using h3
    obtain rfl : c4 = .string a4 := by simpa [RS] using h4
    obtain rfl : c5 = .string a5 := by simpa [RS] using h5
    obtain rfl : c6 = .string a6 := by simpa [RS] using h6
    obtain rfl : c7 = .string a7 := by simpa [RS] using h7
    obtain rfl : c8 = .string a8 := by simpa [RS] using h8
    obtain rfl : c9 = .string a9 := by simpa [RS] using h9
    obtain rfl : c10 = .string a10 := by simpa [RS] using h10
    obtain rfl : c11 = .string a11 := by simpa [RS] using h11
    obtain rfl : c13 = .bool a13 := by simpa [RB] using h13
    obtain rfl : c14 = .int .u64 a14 := by simpa [RI] using h14
    obtain rfl : c15 = .int .u64 a15 := by simpa [RI] using h15
    obtain rfl : c12 = v12 := by simpa using h12
    obtain rfl : c16 = v16 := by simpa using h16
    obtain ⟨n, hs16⟩ := hs16.cmdN
    obtain ⟨A, c, rfl⟩ := hs12.form
    obtain ⟨A', c', rfl⟩ := hs16.form
    exact ⟨⟨a0, a1, a2, a3, a4, a5, a6, a7, a8, a9, a10, a11, a12, a13, a14, a15, a16⟩, ⟨n + 1, _, _, rfl, hs12, hs16⟩, rfl, rfl⟩
theorem rdCmd (B : Blk H bulk) : Rd enc Go.Proofs.Try.prog W bulk 42 17 RCmd := fun fuel cs x h hb => rdCmdF B fuel cs x h hb
end
end Go.Sod
