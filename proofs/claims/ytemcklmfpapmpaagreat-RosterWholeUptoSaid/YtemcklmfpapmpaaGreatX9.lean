/-
  RosterHealth, walked. Conditions: none.
-/
import Derived.Test.YtemcklmfpapmpaaGreatX7
import Derived.Test.YtemcklmfpapmpaaGreatRosLaw3
namespace Go.Sod
set_option linter.unusedVariables false
set_option linter.unusedSimpArgs false
set_option maxRecDepth 10000
set_option maxHeartbeats 4000000

section
variable {C : Cx} {ds : List Deferred} {env : Env} {h : Hp} {L : List Hp} {K : Act → World → Prop}
theorem J.gen1 {m : Hp} (p : Hp → Prop) (hp : p m) (j : ∀ m', p m' → J C K ds env h (m' :: L)) : J C K ds env h (m :: L) := j m hp
end

theorem rosterHealth_walk {h : Hp} {l : List Stp} {lv : Value} {c : Chk} {service : ByteArray} (hl : SlR h 18 RStp lv l) (hsm : ∀ s, s ∈ l → StpSm s) (hcm : ChkSm c) : FH Go.Proofs.Tryz.prog 5 [lv, .agg ⟨chkV c⟩, .string service] h (fun r h' => r = .bool true) := by
  obtain ⟨lA, lc, rfl⟩ := hl.form
  refine FS.enter Go.Proofs.Tryz.func5 rfl rfl fun w0 => ?_
  refine .seq (.text (.box (cs := [_, _, _, _, _, _, _]) rfl rfl rfl rfl fun b4 => .as_ rfl rfl (.done (.thenN ?_))))
  refine .seq (?_)
  refine J.frzB fun hb0 hlb0 hB => ?_
  have hl := hl.mono RStp.mono hlb0
  have hB := (Hp.le_refl _) _ _ hB
  haveI : ∀ L, At hb0 L b4 (.cells ⟨chkV c⟩ 33 (0, 0)) := fun L => At.ofH hB
  refine .text (.call0 rfl rfl rnew_walk rfl rfl fun u9 h9 ms9 hl9 hu9 => ?_)
  obtain ⟨_, rp, m, rfl, rfl, hR⟩ := hu9
  simp only [List.singleton_append]
  refine .as_ rfl rfl (.done (.thenN ?_))
  refine .seq (.text (.call0 rfl rfl rfnew_walk rfl rfl fun u11 h11 ms11 hl11 hu11 => ?_))
  obtain ⟨rfl, wb, rfl, rfl⟩ := hu11
  simp only [List.singleton_append]
  refine J.front 1 rfl ?_
  obtain ⟨mw, hmw⟩ : ∃ mw, mw = one wb (.cells ⟨rfV ⟨clampM 64, [], [], [], 0, 0, 0⟩ (.slice none 0 0) (.slice none 0 0) (.slice none 0 0)⟩ 68 (0, 0)) := ⟨_, rfl⟩
  have hW : Rb mw h11 wb (tellR (rst0 (min (max 64 1) 64))) := by rw [rst0_tell]; exact ⟨_, _, _, hmw, SlR.nil _ _ _, SlR.nil _ _ _, SlR.nil _ _ _⟩
  rw [← hmw]
  refine .as_ rfl rfl (.done (.thenN ?_))
  refine .seq (.seq (.text (.as_ rfl rfl (.done (.thenN ?_)))))
  refine .block (?_)
  refine J.loop (ι := Nat × Rst × Hp × Hp × Hp) (fun i => i.1 ≤ l.length ∧ hb0.le i.2.2.1 ∧ RKey i.2.1 ∧ RWf i.2.1 ∧ Ro i.2.2.2.1 i.2.2.1 rp i.2.1 ∧ Rb i.2.2.2.2 i.2.2.1 wb (tellR i.2.1)) (fun i => [(0, .slice lA l.length lc), (2, .string service), (4, .pointer (some ⟨b4, 0, none⟩)), (7, .pointer (some ⟨rp, 0, none⟩)), (8, .pointer (some ⟨wb, 0, none⟩)), (9, .int .i64 (i.1 : Int))]) (fun i => i.2.2.1) (fun i => [i.2.2.2.1, i.2.2.2.2]) (fun i => l.length - i.1) (0, rst0 (min (max 64 1) 64), h11, m, mw) ⟨Nat.zero_le _, Hp.le_trans hl9 hl11, rst0_key _, rst0_wf (by omega) (by omega), hR.mono hl11, hW⟩ (.cons rfl (.cons rfl (.cons rfl (.cons rfl (.cons rfl (.cons rfl (.nil _))))))) rfl rfl ?_
  rintro ⟨k, R, h1, m1, mw1⟩ ⟨hk0, hle, hk, hwf, hRo, hW⟩
  dsimp only at hk0 hle hk hwf hRo hW ⊢
  have hx := hl.mono RStp.mono hle
  have hmx := hx.len
  unfold maxL at hmx
  refine .seq (.seq (.text (.mv rfl rfl (.mv rfl rfl (.len hx rfl rfl rfl (.cmp rfl rfl rfl rfl (.mv rfl rfl (.and (d := 25) (g := 22) _ _ (take_drop 3) rfl rfl (fun hb4_5 => .guard rfl rfl rfl rfl (.mv rfl rfl (.guard rfl rfl rfl rfl (.cmp rfl rfl rfl rfl (.pick rfl rfl rfl rfl ((.done (.thenN (.midB rfl))))))))) (.guardNo rfl rfl rfl rfl rfl rfl (.guardNo rfl rfl rfl rfl rfl rfl (.pick rfl rfl rfl rfl ((.done (.thenN (.midB rfl))))))) (.done (.thenN ?_))))))))))
  refine .cond rfl (fun hb4 => ?_) (fun hb4 => ?_)
  ·
    have hkl : k < l.length := by simp at hb4; omega
    refine .skip (.thenN ?_)
    refine .seq (.block (.text (.mv rfl rfl (.mv rfl rfl (.mv rfl rfl (.mv rfl rfl (.ix (i := k) hx rfl rfl rfl hkl rfl (.ldE hx hkl rfl rfl rfl fun vs hvs => ?_))))))))
    obtain ⟨tv, rfl, htv⟩ := hvs
    refine ?_
    refine .callA rfl rfl (step_walk hRo hwf hW hwf.rf htv (hsm _ (List.getElem_mem hkl))) rfl rfl fun u28 h28 L28 hl28 hu28 => ?_
    obtain ⟨m2, mw2, rfl, e28, hRo, hW⟩ := hu28
    rw [stepW_tell hk hwf] at hW
    refine .done (.blkN (.thenN ?_))
    refine .text (.mv rfl rfl (.inc rfl rfl (by omega) rfl (.as_ rfl rfl (.done (.thenN ?_)))))
    exact J.again (k + 1, stepR R l[k], h28, m2, mw2) (by dsimp only; omega) ⟨hkl, Hp.le_trans hle hl28, stepR_key hk hwf _, stepR_wf hwf _, hRo, hW⟩ (.cons rfl (.cons rfl (.cons rfl (.cons rfl (.cons rfl (.cons rfl (.nil _))))))) rfl rfl
  ·
    refine J.front 1 rfl (J.dropF 1 ?_)
    have hB := hle _ _ hB
    haveI : ∀ L, At h1 L b4 (.cells ⟨chkV c⟩ 33 (0, 0)) := fun L => At.ofH hB
    have hRoc := hRo
    obtain ⟨t0, t1, t2, m0, m1, m2, hb, rfl, d0, d1, T0, T1, T2⟩ := hRo
    obtain ⟨rv0, mr0, rfl, dd0, hr0⟩ := T0
    obtain ⟨rv1, mr1, rfl, dd1, hr1⟩ := T1
    obtain ⟨rv2, mr2, rfl, dd2, hr2⟩ := T2
    haveI : ∀ L, At h1 L rp (.cells ⟨rosV t0 t1 t2⟩ 66 (0, 0)) := fun L => At.ofH hb
    refine J.open6 d0 d1 dd0 dd1 dd2 ?_
    refine .exit (.thenE (.thenE (.blkHit (.thenN ?_))))
    refine .seq (.text (.as_ rfl rfl (.done (.thenN ?_))))
    refine .seq (.text (.mv rfl rfl (?_)))
    refine .callG rfl rfl (checks_walk hr2 hwf.ne) rfl rfl fun u36 h36 hl36 hu36 => ?_
    refine J.shut6 fun _ _ _ _ _ => ?_
    refine J.gen1 (p := fun m => Ro m h36 rp (R)) (hRoc.mono hl36) fun m hRo => ?_
    have hB := hl36 _ _ hB
    haveI : ∀ L, At h36 L b4 (.cells ⟨chkV c⟩ 33 (0, 0)) := fun L => At.ofH hB
    obtain ⟨cA, cc, rfl⟩ := hu36.form
    have hul := hu36.len
    unfold maxL at hul
    refine .as_ rfl rfl (.done (.thenN ?_))
    refine .seq (.seq (.text (.as_ rfl rfl (.done (.thenN ?_)))))
    refine .block (?_)
    refine J.loop (fun j : Nat => j ≤ (R.c.map toldC).length) (fun j => [(2, .string service), (4, .pointer (some ⟨b4, 0, none⟩)), (7, .pointer (some ⟨rp, 0, none⟩)), (10, .bool (((R.c.map toldC).take j).any (sameC c.node c.id))), (11, .slice cA (R.c.map toldC).length cc), (12, .int .i64 (j : Int))]) (fun _ => h36) (fun _ => [m]) (fun j => (R.c.map toldC).length - j) 0 (Nat.zero_le _) (.cons rfl (.cons rfl (.cons rfl (.cons rfl (.cons rfl (.cons rfl (.nil _))))))) rfl rfl ?_
    rintro j hj0
    refine .seq (.seq (.text (.mv rfl rfl (.mv rfl rfl (.len hu36 rfl rfl rfl (.cmp rfl rfl rfl rfl (.done (.thenN ?_))))))))
    refine .cond rfl (fun hb10 => ?_) (fun hb10 => ?_)
    ·
      have hj : j < (R.c.map toldC).length := by simp [cmpI] at hb10; simp; omega
      refine .skip (.thenN ?_)
      refine .seq (.block (.draw [(0, .pure), (1, .pure), (2, .pure), (3, .pure), (4, .pure), (5, .pure), (6, .read), (7, .pure), (8, .read), (9, .pure), (10, .pure), (11, .pure), (12, .pure), (13, .pure), (14, .pure), (15, .read), (16, .pure), (17, .read), (18, .pure), (19, .pure), (20, .pure), (21, .pure)] rfl (by kernel_rfl) (.mv rfl rfl (.mv rfl rfl (.or (d := 63) (g := 44) _ _ (take_drop 19) rfl rfl (fun hb12_2 => .guard rfl rfl rfl rfl (.mv rfl rfl (.guard rfl rfl rfl rfl (.mv rfl rfl (.guard rfl rfl rfl rfl (.ix (i := j) hu36 rfl rfl rfl hj rfl (.guard rfl rfl rfl rfl (.faE rfl (hu36.ne (by omega)) rfl (.guard rfl rfl rfl rfl (.ldG (.int .i64 (R.c.map toldC)[j].node) hu36 hj rfl (fun vs e => by obtain rfl := e; rfl) rfl rfl (.guard rfl rfl rfl rfl (.fa rfl rfl (.guard rfl rfl rfl rfl (.ld rfl rfl rfl rfl (.guard rfl rfl rfl rfl (.cmp rfl rfl rfl rfl (.guard rfl rfl rfl rfl (.mv rfl rfl (.and (d := 62) (g := 53) _ _ (take_drop 9) rfl rfl (fun hb12_11 => .guard rfl rfl rfl rfl (.mv rfl rfl (.guard rfl rfl rfl rfl (.mv rfl rfl (.guard rfl rfl rfl rfl (.ix (i := j) hu36 rfl rfl rfl hj rfl (.guard rfl rfl rfl rfl (.faE rfl (hu36.ne (by omega)) rfl (.guard rfl rfl rfl rfl (.ldG (.string (R.c.map toldC)[j].id) hu36 hj rfl (fun vs e => by obtain rfl := e; rfl) rfl rfl (.guard rfl rfl rfl rfl (.fa rfl rfl (.guard rfl rfl rfl rfl (.ld rfl rfl rfl rfl (.guard rfl rfl rfl rfl (.cmpS rfl rfl rfl rfl (.guard rfl rfl rfl rfl (.pick rfl rfl rfl rfl ((.done (.thenN (.midB rfl)))))))))))))))))))))) (.guardNo rfl rfl rfl rfl rfl rfl (.guardNo rfl rfl rfl rfl rfl rfl (.guardNo rfl rfl rfl rfl rfl rfl (.guardNo rfl rfl rfl rfl rfl rfl (.guardNo rfl rfl rfl rfl rfl rfl (.guardNo rfl rfl rfl rfl rfl rfl (.guardNo rfl rfl rfl rfl rfl rfl (.guardNo rfl rfl rfl rfl rfl rfl (.guard rfl rfl rfl rfl (.pick rfl rfl rfl rfl ((.done (.thenN (.midB rfl)))))))))))))) (.pick rfl rfl rfl rfl ((.done (.thenN (.midB rfl)))))))))))))))))))))))) (.guardNo rfl rfl rfl rfl rfl rfl (.guardNo rfl rfl rfl rfl rfl rfl (.guardNo rfl rfl rfl rfl rfl rfl (.guardNo rfl rfl rfl rfl rfl rfl (.guardNo rfl rfl rfl rfl rfl rfl (.guardNo rfl rfl rfl rfl rfl rfl (.guardNo rfl rfl rfl rfl rfl rfl (.guardNo rfl rfl rfl rfl rfl rfl (.guardNo rfl rfl rfl rfl rfl rfl (.guardU rfl rfl rfl rfl rfl (.guardU rfl rfl rfl rfl rfl (.guardU rfl rfl rfl rfl rfl (.guardU rfl rfl rfl rfl rfl (.guardU rfl rfl rfl rfl rfl (.guardU rfl rfl rfl rfl rfl (.guardU rfl rfl rfl rfl rfl (.guardU rfl rfl rfl rfl rfl (.guardNo rfl rfl rfl rfl rfl rfl (.pick rfl rfl rfl rfl ((.done (.thenN (.midB rfl))))))))))))))))))))))) (.as_ rfl rfl (.done (.blkN (.thenN ?_)))))))))
      refine .text (.mv rfl rfl (.inc rfl rfl (by omega) rfl (.as_ rfl rfl (.done (.thenN ?_)))))
      refine J.again (j + 1) (by omega) hj (.cons rfl (.cons rfl (.cons rfl (.cons ?_ (.cons rfl (.cons rfl (.nil _))))))) rfl rfl
      rw [any_take_succ hj]; rfl
    ·
      have hj : j = (R.c.map toldC).length := by simp [cmpI] at hb10; simp at hj0 ⊢; omega
      subst hj
      rw [List.take_length, show (R.c.map toldC).any (sameC c.node c.id) = chkIs R c.node c.id from (chkIs_eq hk hwf).symm]
      have hRoc := hRo
      obtain ⟨t0, t1, t2, m0, m1, m2, hb, rfl, d0, d1, T0, T1, T2⟩ := hRo
      obtain ⟨rv0, mr0, rfl, dd0, hr0⟩ := T0
      obtain ⟨rv1, mr1, rfl, dd1, hr1⟩ := T1
      obtain ⟨rv2, mr2, rfl, dd2, hr2⟩ := T2
      haveI : ∀ L, At h36 L rp (.cells ⟨rosV t0 t1 t2⟩ 66 (0, 0)) := fun L => At.ofH hb
      refine J.open6 d0 d1 dd0 dd1 dd2 ?_
      refine .exit (.thenE (.thenE (.blkHit (.thenN ?_))))
      refine .seq (.text (.mv rfl rfl (.fa rfl rfl (.ld rfl rfl rfl rfl (.mv rfl rfl (?_))))))
      refine .callR rfl rfl (health_walk hr1 hwf.ne hr2 hwf.ne) rfl rfl ?_
      refine J.shut6 fun _ _ _ _ _ => ?_
      refine J.gen1 (p := fun m => Ro m h36 rp (R)) hRoc fun m hRo => ?_
      rw [show healthB (R.c.map toldC) c.node service = hlt R c.node service from rfl]
      refine .as_ rfl rfl (.done (.thenN ?_))
      refine .seq (.text (.mv rfl rfl (.ldA (chkV c) rfl rfl rfl rfl rfl (?_))))
      refine .callM rfl rfl (check_walk (ix := 99) hRo hwf hcm) rfl rfl fun u71 h71 m71 hl71 hu71 => ?_
      obtain ⟨e71, rfl, hRo⟩ := hu71
      have e71 := e71.symm
      subst e71
      have hwf1 := chkR_wf (c := c) (ix := 99) hwf
      refine .as_ rfl rfl (.done (.thenN ?_))
      refine .seq (.text (.mv rfl rfl (.fa rfl rfl (.ld rfl rfl rfl rfl (.mv rfl rfl (?_))))))
      have hRoc := hRo
      obtain ⟨t0, t1, t2, m0, m1, m2, hb, rfl, d0, d1, T0, T1, T2⟩ := hRo
      obtain ⟨rv0, mr0, rfl, dd0, hr0⟩ := T0
      obtain ⟨rv1, mr1, rfl, dd1, hr1⟩ := T1
      obtain ⟨rv2, mr2, rfl, dd2, hr2⟩ := T2
      haveI : ∀ L, At h36 L rp (.cells ⟨rosV t0 t1 t2⟩ 66 (0, 0)) := fun L => At.ofH hb
      refine J.open6 d0 d1 dd0 dd1 dd2 ?_
      refine .callR rfl rfl (health_walk hr1 hwf1.ne hr2 hwf1.ne) rfl rfl ?_
      refine J.shut6 fun _ _ _ _ _ => ?_
      refine J.gen1 (p := fun m => Ro m h36 rp (chkR R c 99)) hRoc fun m hRo => ?_
      rw [show healthB ((chkR R c 99).c.map toldC) c.node service = hlt (chkR R c 99) c.node service from rfl]
      refine .as_ rfl rfl (.done (.thenN ?_))
      refine .seq (.seq (.text (.mv rfl rfl (.cmp rfl rfl rfl rfl (.done (.thenN ?_))))))
      refine .cond rfl (fun hb16 => ?_) (fun hb16 => ?_)
      ·
        have he : chkE R c ≠ 0 := by simpa using hb16
        refine .seq (.text (.mv rfl rfl (.mv rfl rfl (.cmp (b := true) rfl rfl (by simp [cmpI, hlt_wrong he]) rfl (.mv rfl rfl (.guard rfl rfl rfl rfl (?_)))))))
        refine .callH rfl rfl rworks_walk rfl rfl fun u83 h83 hl83 hu83 => ?_
        subst hu83
        refine .pick rfl rfl rfl rfl (.as_ rfl rfl (.done (.thenN ?_)))
        refine .ret (.thenR ?_)
        exact J.retH rfl rfl
      ·
        have he : chkE R c = 0 := by simpa using hb16
        refine .skip (.thenN ?_)
        refine .seq (.seq (.text (.mv rfl rfl (.not rfl rfl (.mv rfl rfl (.and (d := 91) (g := 87) _ _ (take_drop 4) rfl rfl (fun hb18_3 => .guard rfl rfl rfl rfl (.mv rfl rfl (.guard rfl rfl rfl rfl (.mv rfl rfl (.guard rfl rfl rfl rfl (.cmp rfl rfl rfl rfl (.pick rfl rfl rfl rfl ((.done (.thenN (.midB rfl))))))))))) (.guardNo rfl rfl rfl rfl rfl rfl (.guardNo rfl rfl rfl rfl rfl rfl (.guardNo rfl rfl rfl rfl rfl rfl (.pick rfl rfl rfl rfl ((.done (.thenN (.midB rfl)))))))) (.done (.thenN ?_))))))))
        refine .cond rfl (fun hb18 => ?_) (fun hb18 => ?_)
        ·
          exfalso
          have q : (!chkIs R c.node c.id && decide (hlt (chkR R c 99) c.node service < hlt R c.node service)) = true := hb18
          simp only [Bool.and_eq_true, Bool.not_eq_true', decide_eq_true_eq] at q
          exact absurd (hlt_more (ix := 99) (svc := service) he q.1) (by omega)
          --stop
        ·
          refine .skip (.thenN ?_)
          refine .seq (.seq (.text (.mv rfl rfl (.fa rfl rfl (.ld rfl rfl rfl rfl (.fa rfl rfl (.ld rfl rfl rfl rfl (?_))))))))
          refine .callM rfl rfl (dropCheck_walk (ix := 100) hRo hwf1 hcm.id) rfl rfl fun u97 h97 m97 hl97 hu97 => ?_
          obtain ⟨e97, hRo⟩ := hu97
          rw [(chk_less (ix := 99) (ix' := 100) hwf he).1] at e97
          subst e97
          have hwf2 := dropChkR_wf (n := c.node) (id := c.id) (ix := 100) hwf1
          have hB := hl97 _ _ hB
          haveI : ∀ L, At h97 L b4 (.cells ⟨chkV c⟩ 33 (0, 0)) := fun L => At.ofH hB
          refine .cmp (b := false) rfl rfl rfl rfl (.mv rfl rfl (.guard rfl rfl rfl rfl (.mv rfl rfl (.guard rfl rfl rfl rfl (.fa rfl rfl (.guard rfl rfl rfl rfl (.ld rfl rfl rfl rfl (.guard rfl rfl rfl rfl (.mv rfl rfl (.guard rfl rfl rfl rfl (?_)))))))))))
          have hRoc := hRo
          obtain ⟨t0, t1, t2, m0, m1, m2, hb, rfl, d0, d1, T0, T1, T2⟩ := hRo
          obtain ⟨rv0, mr0, rfl, dd0, hr0⟩ := T0
          obtain ⟨rv1, mr1, rfl, dd1, hr1⟩ := T1
          obtain ⟨rv2, mr2, rfl, dd2, hr2⟩ := T2
          haveI : ∀ L, At h97 L rp (.cells ⟨rosV t0 t1 t2⟩ 66 (0, 0)) := fun L => At.ofH hb
          refine J.open6 d0 d1 dd0 dd1 dd2 ?_
          refine .callR rfl rfl (health_walk hr1 hwf2.ne hr2 hwf2.ne) rfl rfl ?_
          refine J.shut6 fun _ _ _ _ _ => ?_
          refine J.gen1 (p := fun m => Ro m h97 rp (dropChkR (chkR R c 99) c.node c.id 100)) hRoc fun m hRo => ?_
          refine .guard rfl rfl rfl rfl (.mv rfl rfl (.guard rfl rfl rfl rfl (.cmp (b := false) rfl rfl (by have := hlt_less (ix := 99) (ix' := 100) (svc := service) hwf he; unfold hlt at this; simp only [cmpI, hlt]; exact congrArg some (decide_eq_false (by omega))) rfl (.pick rfl rfl rfl rfl (.done (.thenN ?_))))))
          refine .condF rfl ?_
          refine .skip (.thenN ?_)
          refine .seq (.text (.mv rfl rfl (.mv rfl rfl (.grpG (ι := Hp) (fun i => Ro i h97 rp (dropChkR (chkR R c 99) c.node c.id 100)) (fun _ => true) (fun _ => h97) (fun i => [i]) (d := 117) _ _ (take_drop 8) rfl ?_ ?_))))
          ·
            refine J.split (t := 109) rfl (fun hb22_2 => ?_) (fun hb22_2 => ?_)
            ·
              refine .guardNo rfl rfl rfl rfl rfl rfl (.guardNo rfl rfl rfl rfl rfl rfl (.guardNo rfl rfl rfl rfl rfl rfl (.guardNo rfl rfl rfl rfl rfl rfl (.guardNo rfl rfl rfl rfl rfl rfl (.guardNo rfl rfl rfl rfl rfl rfl (.guardNo rfl rfl rfl rfl rfl rfl (.pick rfl rfl rfl rfl ((.done (.thenN ?_))))))))))
              exact J.midG _ hRo rfl rfl rfl
            ·
              refine .guard rfl rfl rfl rfl (.mv rfl rfl (.guard rfl rfl rfl rfl (.fa rfl rfl (.guard rfl rfl rfl rfl (.ld rfl rfl rfl rfl (.guard rfl rfl rfl rfl (.mv rfl rfl (.guard rfl rfl rfl rfl (?_)))))))))
              have hRoc := hRo
              obtain ⟨t0, t1, t2, m0, m1, m2, hb, rfl, d0, d1, T0, T1, T2⟩ := hRo
              obtain ⟨rv0, mr0, rfl, dd0, hr0⟩ := T0
              obtain ⟨rv1, mr1, rfl, dd1, hr1⟩ := T1
              obtain ⟨rv2, mr2, rfl, dd2, hr2⟩ := T2
              haveI : ∀ L, At h97 L rp (.cells ⟨rosV t0 t1 t2⟩ 66 (0, 0)) := fun L => At.ofH hb
              refine J.open6 d0 d1 dd0 dd1 dd2 ?_
              refine .callR rfl rfl (health_walk hr1 hwf2.ne hr2 hwf2.ne) rfl rfl (.guard rfl rfl rfl rfl (.mv rfl rfl (.guard rfl rfl rfl rfl (.cmp rfl rfl rfl rfl (.pick rfl rfl rfl rfl ((.done (.thenN ?_))))))))
              refine J.shut6 fun _ _ _ _ _ => ?_
              refine J.gen1 (p := fun m => Ro m h97 rp (dropChkR (chkR R c 99) c.node c.id 100)) hRoc fun m hRo => ?_
              refine J.midG m hRo ?_ rfl rfl
              have q := hlt_back (ix := 99) (ix' := 100) (svc := service) hwf he hb22_2
              unfold hlt at q
              show some (Value.bool (decide (healthB _ c.node service = hlt R c.node service))) = _
              rw [q]; simp [hlt]
          rintro m hRo
          refine .mv rfl rfl (.guard rfl rfl rfl rfl (?_))
          refine .callH rfl rfl rworks_walk rfl rfl fun u119 h119 hl119 hu119 => ?_
          subst hu119
          refine .pick rfl rfl rfl rfl (.as_ rfl rfl (.done (.thenN ?_)))
          refine .ret ?_
          exact J.retH rfl rfl
end Go.Sod
