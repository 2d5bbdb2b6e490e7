/-
  RosterBack, walked. Conditions: none.
-/
import Derived.Test.YtemcklmfpapmpaaGreatX7
import Derived.Test.YtemcklmfpapmpaaGreatRosLaw5
namespace Go.Sod
set_option linter.unusedVariables false
set_option linter.unusedSimpArgs false
set_option maxRecDepth 10000
set_option maxHeartbeats 4000000
theorem rosterBack_walk {h : Hp} {l : List Stp} {lv : Value} (hl : SlR h 18 RStp lv l) (hsm : ∀ s, s ∈ l → StpSm s) : FH Go.Proofs.Tryz.prog 6 [lv] h (fun r h' => r = .bool true) := by
  obtain ⟨lA, lc, rfl⟩ := hl.form
  refine FS.enter Go.Proofs.Tryz.func6 rfl rfl fun w0 => ?_
  refine .seq (.text (.as_ rfl rfl (.done (.thenN ?_))))
  refine .seq (.text (.call0 rfl rfl rnew_walk rfl rfl fun u9 h9 ms9 hl9 hu9 => ?_))
  obtain ⟨_, rp, m, rfl, rfl, hR⟩ := hu9
  simp only [List.singleton_append]
  refine .as_ rfl rfl (.done (.thenN ?_))
  refine .seq (.text (.call0 rfl rfl rfnew_walk rfl rfl fun u11 h11 ms11 hl11 hu11 => ?_))
  obtain ⟨rfl, wb, rfl, rfl⟩ := hu11
  simp only [List.singleton_append]
  refine J.front 1 rfl ?_
  obtain ⟨mw, hmw⟩ : ∃ mw, mw = one wb (.cells ⟨rfV ⟨clampM 64, [], [], [], 0, 0, 0⟩ (.slice none 0 0) (.slice none 0 0) (.slice none 0 0)⟩ 68 (0, 0)) := ⟨_, rfl⟩
  have hW : Rb mw h11 wb (tellR (rst0 (min (max 64 1) 64))) := by rw [rst0_tell]; exact ⟨_, _, _, hmw, SlR.nil _ _ _, SlR.nil _ _ _, SlR.nil _ _ _⟩
  rw [← hmw]
  refine .as_ rfl rfl (.done (.thenN ?_))
  refine .seq (.seq (.text (.as_ rfl rfl (.done (.thenN ?_)))))
  refine .block (?_)
  refine J.loop (ι := Nat × Rst × Hp × Hp × Hp) (fun i => i.1 ≤ l.length ∧ h.le i.2.2.1 ∧ RKey i.2.1 ∧ RWf i.2.1 ∧ Ro i.2.2.2.1 i.2.2.1 rp i.2.1 ∧ Rb i.2.2.2.2 i.2.2.1 wb (tellR i.2.1) ∧ Whl i.2.1 ∧ Idx i.2.1 (i.1 : Int) ∧ i.2.1.most = 64) (fun i => [(0, .slice lA l.length lc), (3, .pointer (some ⟨rp, 0, none⟩)), (4, .pointer (some ⟨wb, 0, none⟩)), (5, .int .i64 (i.1 : Int))]) (fun i => i.2.2.1) (fun i => [i.2.2.2.1, i.2.2.2.2]) (fun i => l.length - i.1) (0, rst0 (min (max 64 1) 64), h11, m, mw) ⟨Nat.zero_le _, Hp.le_trans hl9 hl11, rst0_key _, rst0_wf (by omega) (by omega), hR.mono hl11, hW, rst0_whl _, rst0_idx _, rfl⟩ (.cons rfl (.cons rfl (.cons rfl (.cons rfl (.nil _))))) rfl rfl ?_
  rintro ⟨k, R, h1, m1, mw1⟩ ⟨hk0, hle, hk, hwf, hRo, hW, hwh, hI, hm⟩
  dsimp only at hk0 hle hk hwf hRo hW hwh hI hm ⊢
  have hx := hl.mono RStp.mono hle
  have hmx := hx.len
  unfold maxL at hmx
  refine .seq (.seq (.text (.mv rfl rfl (.mv rfl rfl (.len hx rfl rfl rfl (.cmp rfl rfl rfl rfl (.mv rfl rfl (.and (d := 18) (g := 15) _ _ (take_drop 3) rfl rfl (fun hb4_5 => .guard rfl rfl rfl rfl (.mv rfl rfl (.guard rfl rfl rfl rfl (.cmp rfl rfl rfl rfl (.pick rfl rfl rfl rfl ((.done (.thenN (.midB rfl))))))))) (.guardNo rfl rfl rfl rfl rfl rfl (.guardNo rfl rfl rfl rfl rfl rfl (.pick rfl rfl rfl rfl ((.done (.thenN (.midB rfl))))))) (.done (.thenN ?_))))))))))
  refine .cond rfl (fun hb4 => ?_) (fun hb4 => ?_)
  ·
    have hkl : k < l.length := by simp at hb4; omega
    refine .skip (.thenN ?_)
    refine .seq (.block (.seq (.text (.mv rfl rfl (.mv rfl rfl (.ix (i := k) hx rfl rfl rfl hkl rfl (.ldE hx hkl rfl rfl rfl fun vs hvs => ?_)))))))
    obtain ⟨tv, rfl, htv⟩ := hvs
    obtain ⟨tA, tc, rfl⟩ := htv.form
    dsimp only [stpV]
    refine .alloc (cs := [_, _, _, _, _, _, _, _, _, _, _, _, _, _, _, _, _, _]) rfl rfl rfl fun b6 => .stW rfl rfl rfl rfl rfl rfl (.done (.thenN ?_))
    refine .seq (.text (.mv rfl rfl (.inc rfl rfl (by omega) rfl (.cvI rfl rfl ?_))))
    rw [show IntKind.u64.wrap ((k + 1 : Nat) : Int) = ((k + 1 : Nat) : Int) from wrapu64_id (by omega) (by omega)]
    refine .fa rfl rfl (.stS rfl rfl rfl rfl (.done (.thenN ?_)))
    refine .seq (.text (.mv rfl rfl (.mv rfl rfl (.ldW rfl rfl rfl rfl (?_)))))
    refine J.dropF 1 ?_
    refine .callA rfl rfl (step_walk (s := ({ l[k] with ix := ((k + 1 : Nat) : Int) } : Stp)) hRo hwf hW hwf.rf htv ⟨(hsm _ (List.getElem_mem hkl)).st, (hsm _ (List.getElem_mem hkl)).ss, (hsm _ (List.getElem_mem hkl)).sc⟩) rfl rfl fun u28 h28 L28 hl28 hu28 => ?_
    obtain ⟨m2, mw2, rfl, e28, hRo, hW⟩ := hu28
    rw [stepB_tell hk hwf] at e28
    subst e28
    rw [stepW_tell hk hwf] at hW
    refine .not rfl rfl (.done (.thenN ?_))
    refine .condF rfl ?_
    refine .skip (.blkN (.thenN ?_))
    refine .text (.mv rfl rfl (.inc rfl rfl (by omega) rfl (.as_ rfl rfl (.done (.thenN ?_)))))
    exact J.again (k + 1, stepR R ({ l[k] with ix := ((k + 1 : Nat) : Int) } : Stp), h28, m2, mw2) (by dsimp only; omega) ⟨hkl, Hp.le_trans hle hl28, stepR_key hk hwf _, stepR_wf hwf _, hRo, hW, stepR_whl hk hwf hwh _, stepR_idx hwf hI _ (by show (k : Int) ≤ ((k + 1 : Nat) : Int); omega), (stepR_most _).trans hm⟩ (.cons rfl (.cons rfl (.cons rfl (.cons rfl (.nil _))))) rfl rfl
  ·
    have hRoc := hRo
    obtain ⟨t0, t1, t2, m0, m1, m2, hb, rfl, d0, d1, T0, T1, T2⟩ := hRo
    obtain ⟨rv0, mr0, rfl, dd0, hr0⟩ := T0
    obtain ⟨rv1, mr1, rfl, dd1, hr1⟩ := T1
    obtain ⟨rv2, mr2, rfl, dd2, hr2⟩ := T2
    haveI : ∀ L, At h1 L rp (.cells ⟨rosV t0 t1 t2⟩ 66 (0, 0)) := fun L => At.ofH hb
    refine J.open6 d0 d1 dd0 dd1 dd2 ?_
    refine .exit (.thenE (.thenE (.blkHit (.thenN ?_))))
    refine .seq (.text (.mv rfl rfl (?_)))
    refine .callG rfl rfl (nodes_walk hr0 hwf.ne) rfl rfl fun u35 h35 hl35 hN => ?_
    have hb := hl35 _ _ hb
    haveI : ∀ L, At h35 L rp (.cells ⟨rosV t0 t1 t2⟩ 66 (0, 0)) := fun L => At.ofH hb
    have hr1 := hr1.mono (RRow.mono RSvc.mono) hl35
    have hr2 := hr2.mono (RRow.mono RChk.mono) hl35
    refine .mv rfl rfl (?_)
    refine .callG rfl rfl (services_walk hr1 hwf.ne) rfl rfl fun u37 h37 hl37 hS => ?_
    have hb := hl37 _ _ hb
    haveI : ∀ L, At h37 L rp (.cells ⟨rosV t0 t1 t2⟩ 66 (0, 0)) := fun L => At.ofH hb
    have hr2 := hr2.mono (RRow.mono RChk.mono) hl37
    have hN := hN.mono RNod.mono hl37
    refine .mv rfl rfl (?_)
    refine .callG rfl rfl (checks_walk hr2 hwf.ne) rfl rfl fun u39 h39 hl39 hC => ?_
    have hb := hl39 _ _ hb
    haveI : ∀ L, At h39 L rp (.cells ⟨rosV t0 t1 t2⟩ 66 (0, 0)) := fun L => At.ofH hb
    have hN := hN.mono RNod.mono hl39
    have hS := hS.mono RSvc.mono hl39
    refine .mv rfl rfl (?_)
    refine .callR rfl rfl (rlast_walk hwf.ne hwf.ne hwf.ne) rfl rfl (?_)
    refine .call0 rfl rfl (load_walk hN hS hC (told_svcSm hwh) (told_chkSm hwh)) rfl rfl fun u43 h43 ms43 hl43 hu43 => ?_
    obtain ⟨R', hP, hT, hwf'⟩ := back_law hk hwf hwh hI hm
    rw [hP] at hu43
    obtain ⟨rp', m', rfl, rfl, hR'⟩ := hu43
    simp only [List.singleton_append]
    refine .mv rfl rfl (.ext rfl rfl rfl (.ext rfl rfl rfl (.as_ rfl rfl (.as_ rfl rfl (.done (.thenN ?_))))))
    refine .seq (.text (.mv rfl rfl (.cmp (b := true) rfl rfl rfl rfl (.mv rfl rfl (.guard rfl rfl rfl rfl (.mv rfl rfl (.guard rfl rfl rfl rfl (.mv rfl rfl (.guard rfl rfl rfl rfl (?_))))))))))
    refine J.drop (List.Sublist.cons_cons _ (.cons _ (.cons _ (.cons _ (.cons _ (.cons _ (.cons _ (List.Sublist.refl _)))))))) ?_
    rw [← hT] at hW
    refine .callR rfl rfl (same_walk hR' hwf' (hW.mono (Hp.le_trans hl35 (Hp.le_trans hl37 (Hp.le_trans hl39 hl43))))) rfl rfl (.pick rfl rfl rfl rfl (.mv rfl rfl (.guard rfl rfl rfl rfl (?_))))
    refine .callH rfl rfl rworks_walk rfl rfl fun u54 h54 hl54 hu54 => ?_
    subst hu54
    refine .pick rfl rfl rfl rfl (.as_ rfl rfl (.done (.thenN ?_)))
    refine .ret ?_
    exact J.retH rfl rfl
end Go.Sod
