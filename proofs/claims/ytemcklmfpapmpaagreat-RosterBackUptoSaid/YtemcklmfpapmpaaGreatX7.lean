/-
  RosterPlays, walked. Conditions: none.
-/
import Derived.Test.YtemcklmfpapmpaaGreatX6
namespace Go.Sod
set_option linter.unusedVariables false
set_option linter.unusedSimpArgs false
set_option maxRecDepth 10000
set_option maxHeartbeats 4000000

def RStp : Rp Stp := fun h s vs => ∃ tv, vs = stpV s tv ∧ SlR h 1 RS tv s.s.tags
theorem RStp.mono : Mono RStp := fun h h' s vs l ⟨tv, e, t⟩ => ⟨tv, e, t.mono RS.mono l⟩
theorem foldl_skip {α β : Type} {p : α → Bool} {f : β → α → β} : ∀ (xs : List α) (b : β), (xs.filter p).foldl f b = xs.foldl (fun w c => if p c = true then f w c else w) b
  | [], b => rfl
  | x :: xs, b => by
    rw [List.filter_cons, List.foldl_cons]
    cases hp : p x with
    | true => rw [if_pos rfl, if_pos rfl, List.foldl_cons]; exact foldl_skip xs _
    | false => rw [if_neg (by decide), if_neg (by decide)]; exact foldl_skip xs _
theorem health_tell (R : Rst) (n : Int) (svc : ByteArray) : rfHealth (tellR R) n svc = healthB (R.c.map toldC) n svc := by
  rw [healthB, foldl_skip, rfHealth]
  congr 1
  funext w c
  by_cases h1 : c.node = n
  · have e : hIs n svc c = (decide (c.service = ⟨#[]⟩) || decide (c.service = svc)) := by rw [hIs, decide_eq_true h1, Bool.true_and]
    rw [if_pos (decide_eq_true h1), healthF, e]
    cases hq : (decide (c.service = ⟨#[]⟩) || decide (c.service = svc)) with
    | false => rfl
    | true =>
      rw [Bool.true_and, if_pos rfl]
      by_cases h2 : w < c.status
      · rw [if_pos (decide_eq_true h2)]; omega
      · rw [if_neg (by simpa using h2)]; omega
  · have e : hIs n svc c = false := by rw [hIs, decide_eq_false h1, Bool.false_and]
    rw [e, if_neg (ifn (decide_eq_false h1))]; rfl
theorem rst0_tell (most : Int) : tellR (rst0 (min (max most 1) 64)) = ⟨clampM most, [], [], [], 0, 0, 0⟩ := by rw [clampM_eq]; rfl

theorem rosterPlays_walk {h : Hp} {most : Int} {l : List Stp} {lv : Value} (hl : SlR h 18 RStp lv l) (hsm : ∀ s, s ∈ l → StpSm s) : FH Go.Proofs.Tryz.prog 3 [.int .i64 most, lv] h (fun r h' => r = .bool true) := by
  obtain ⟨lA, lc, rfl⟩ := hl.form
  refine FS.enter Go.Proofs.Tryz.func3 rfl rfl fun w0 => ?_
  refine .seq (.text (.as_ rfl rfl (.done (.thenN ?_))))
  refine .seq (.text (.mv rfl rfl (?_)))
  refine .call0 rfl rfl rnew_walk rfl rfl fun u9 h9 ms9 hl9 hu9 => ?_
  obtain ⟨_, rp, m, rfl, rfl, hR⟩ := hu9
  simp only [List.singleton_append]
  refine .as_ rfl rfl (.done (.thenN ?_))
  refine .seq (.text (.mv rfl rfl (?_)))
  refine .call0 rfl rfl rfnew_walk rfl rfl fun u11 h11 ms11 hl11 hu11 => ?_
  obtain ⟨rfl, wb, rfl, rfl⟩ := hu11
  simp only [List.singleton_append]
  refine J.front 1 rfl ?_
  obtain ⟨mw, hmw⟩ : ∃ mw, mw = one wb (.cells ⟨rfV ⟨clampM most, [], [], [], 0, 0, 0⟩ (.slice none 0 0) (.slice none 0 0) (.slice none 0 0)⟩ 68 (0, 0)) := ⟨_, rfl⟩
  have hW : Rb mw h11 wb (tellR (rst0 (min (max most 1) 64))) := by rw [rst0_tell]; exact ⟨_, _, _, hmw, SlR.nil _ _ _, SlR.nil _ _ _, SlR.nil _ _ _⟩
  rw [← hmw]
  refine .as_ rfl rfl (.done (.thenN ?_))
  refine .seq (.seq (.text (.as_ rfl rfl (.done (.thenN ?_)))))
  refine .block (?_)
  refine J.loop (ι := Nat × Rst × Hp × Hp × Hp) (fun i => i.1 ≤ l.length ∧ h.le i.2.2.1 ∧ RKey i.2.1 ∧ RWf i.2.1 ∧ Ro i.2.2.2.1 i.2.2.1 rp i.2.1 ∧ Rb i.2.2.2.2 i.2.2.1 wb (tellR i.2.1)) (fun i => [(1, .slice lA l.length lc), (5, .pointer (some ⟨rp, 0, none⟩)), (6, .pointer (some ⟨wb, 0, none⟩)), (7, .int .i64 (i.1 : Int))]) (fun i => i.2.2.1) (fun i => [i.2.2.2.1, i.2.2.2.2]) (fun i => l.length - i.1) (0, rst0 (min (max most 1) 64), h11, m, mw) ⟨Nat.zero_le _, Hp.le_trans hl9 hl11, rst0_key _, rst0_wf (by omega) (by omega), hR.mono hl11, hW⟩ (.cons rfl (.cons rfl (.cons rfl (.cons rfl (.nil _))))) rfl rfl ?_
  rintro ⟨k, R, h1, m1, mw1⟩ ⟨hk0, hle, hk, hwf, hRo, hW⟩
  dsimp only at hk0 hle hk hwf hRo hW ⊢
  have hx := hl.mono RStp.mono hle
  have hmx := hx.len
  unfold maxL at hmx
  refine .seq (.seq (.text (.mv rfl rfl (.mv rfl rfl (.len hx rfl rfl rfl (.cmp rfl rfl rfl rfl (.mv rfl rfl (.and (d := 19) (g := 16) _ _ (take_drop 3) rfl rfl (fun hb4_5 => .guard rfl rfl rfl rfl (.mv rfl rfl (.guard rfl rfl rfl rfl (.cmp rfl rfl rfl rfl (.pick rfl rfl rfl rfl ((.done (.thenN (.midB rfl))))))))) (.guardNo rfl rfl rfl rfl rfl rfl (.guardNo rfl rfl rfl rfl rfl rfl (.pick rfl rfl rfl rfl ((.done (.thenN (.midB rfl))))))) (.done (.thenN ?_))))))))))
  refine .cond rfl (fun hb4 => ?_) (fun hb4 => ?_)
  ·
    have hkl : k < l.length := by simp at hb4; omega
    refine .skip (.thenN ?_)
    refine .seq (.block (.seq (.draw [(0, .pure), (1, .pure), (2, .pure), (3, .pure), (4, .pure), (5, .read), (6, .mut), (7, .pure), (8, .pure), (9, .pure), (10, .pure), (11, .grow), (12, .pure), (13, .pure), (14, .pure), (15, .pure), (16, .pure), (17, .pure), (18, .pure), (19, .pure), (20, .read), (21, .pure), (22, .pure), (23, .pure), (24, .pure), (25, .read), (27, .pure), (28, .pure), (29, .pure), (30, .pure), (31, .pure), (32, .read), (33, .pure), (34, .pure), (35, .pure), (36, .pure), (37, .read), (26, .grow), (38, .grow), (39, .pure), (40, .pure), (41, .pure), (42, .pure), (43, .pure), (44, .pure), (45, .pure), (46, .pure), (47, .pure), (48, .read), (49, .pure), (50, .pure), (51, .pure), (52, .pure), (53, .pure), (54, .read), (56, .pure), (57, .pure), (58, .pure), (59, .pure), (60, .pure), (61, .pure), (62, .read), (63, .pure), (64, .pure), (65, .pure), (66, .pure), (67, .pure), (68, .read), (55, .grow), (69, .grow), (70, .pure), (71, .pure)] rfl (by kernel_rfl) (.mv rfl rfl (.mv rfl rfl (.mv rfl rfl (.mv rfl rfl (.ix (i := k) hx rfl rfl rfl hkl rfl (.ldE hx hkl rfl rfl rfl fun vs hvs => ?_)))))))))
    obtain ⟨tv, rfl, htv⟩ := hvs
    refine ?_
    refine .callA rfl rfl (step_walk hRo hwf hW hwf.rf htv (hsm _ (List.getElem_mem hkl))) rfl rfl fun u28 h28 L28 hl28 hu28 => ?_
    obtain ⟨m2, mw2, rfl, e28, hRo, hW⟩ := hu28
    rw [stepB_tell hk hwf] at e28
    subst e28
    rw [stepW_tell hk hwf] at hW
    have hk := stepR_key hk hwf l[k]
    have hwf := stepR_wf hwf l[k]
    have hx := hx.mono RStp.mono hl28
    generalize stepR R l[k] = R at hk hwf hRo hW
    refine .not rfl rfl (.mv rfl rfl (.guard rfl rfl rfl rfl (.mv rfl rfl (.guard rfl rfl rfl rfl (.mv rfl rfl (.guard rfl rfl rfl rfl (?_)))))))
    refine .callR rfl rfl (same_walk hRo hwf hW) rfl rfl (.guard rfl rfl rfl rfl (.not rfl rfl (.pick rfl rfl rfl rfl (.mv rfl rfl (.guard rfl rfl rfl rfl (?_))))))
    have hRoc := hRo
    have hWc := hW
    obtain ⟨t0, t1, t2, m0, m1, m2, hb, rfl, d0, d1, T0, T1, T2⟩ := hRo
    obtain ⟨rv0, mr0, rfl, dd0, hr0⟩ := T0
    obtain ⟨rv1, mr1, rfl, dd1, hr1⟩ := T1
    obtain ⟨rv2, mr2, rfl, dd2, hr2⟩ := T2
    obtain ⟨nv, sv, cv, rfl, hn, hs, hc⟩ := hW
    haveI : ∀ L, At h28 L rp (.cells ⟨rosV t0 t1 t2⟩ 66 (0, 0)) := fun L => At.ofH hb
    refine J.open6 d0 d1 dd0 dd1 dd2 ?_
    refine .mv rfl rfl (.guard rfl rfl rfl rfl (.mv rfl rfl (.guard rfl rfl rfl rfl (.mv rfl rfl (.guard rfl rfl rfl rfl (.ix (i := k) hx rfl rfl rfl hkl rfl (.guard rfl rfl rfl rfl (.faE rfl (hx.ne (by omega)) rfl (.guard rfl rfl rfl rfl (.ldG (off := 1) (.int .i64 l[k].node) hx hkl rfl (fun vs e => by obtain ⟨tv, rfl, _⟩ := e; rfl) rfl rfl (.guard rfl rfl rfl rfl (.mv rfl rfl (.guard rfl rfl rfl rfl (.mv rfl rfl (.guard rfl rfl rfl rfl (.ix (i := k) hx rfl rfl rfl hkl rfl (.guard rfl rfl rfl rfl (.faE rfl (hx.ne (by omega)) rfl (.guard rfl rfl rfl rfl (.ldG (off := 2) (.string l[k].text) hx hkl rfl (fun vs e => by obtain ⟨tv, rfl, _⟩ := e; rfl) rfl rfl (.guard rfl rfl rfl rfl (.mv rfl rfl (.guard rfl rfl rfl rfl (.mv rfl rfl (.guard rfl rfl rfl rfl (.mv rfl rfl (.guard rfl rfl rfl rfl (.ix (i := k) hx rfl rfl rfl hkl rfl (.guard rfl rfl rfl rfl (.faE rfl (hx.ne (by omega)) rfl (.guard rfl rfl rfl rfl (.ldG (off := 1) (.int .i64 l[k].node) hx hkl rfl (fun vs e => by obtain ⟨tv, rfl, _⟩ := e; rfl) rfl rfl (.guard rfl rfl rfl rfl (.mv rfl rfl (.guard rfl rfl rfl rfl (.mv rfl rfl (.guard rfl rfl rfl rfl (.ix (i := k) hx rfl rfl rfl hkl rfl (.guard rfl rfl rfl rfl (.faE rfl (hx.ne (by omega)) rfl (.guard rfl rfl rfl rfl (.ldG (off := 2) (.string l[k].text) hx hkl rfl (fun vs e => by obtain ⟨tv, rfl, _⟩ := e; rfl) rfl rfl (.guard rfl rfl rfl rfl (?_))))))))))))))))))))))))))))))))))))))))))))
    refine .callR rfl rfl (health_walk hr1 hwf.ne hr2 hwf.ne) rfl rfl (.guard rfl rfl rfl rfl (?_))
    refine .callR rfl rfl (rfhealth_walk (W := tellR R) hc) rfl rfl (.guard rfl rfl rfl rfl (.cmp (b := false) rfl rfl (by simp [cmpI, health_tell]) rfl (.pick rfl rfl rfl rfl (.mv rfl rfl (.guard rfl rfl rfl rfl (.mv rfl rfl (.guard rfl rfl rfl rfl (.mv rfl rfl (.guard rfl rfl rfl rfl (.mv rfl rfl (.guard rfl rfl rfl rfl (.ix (i := k) hx rfl rfl rfl hkl rfl (.guard rfl rfl rfl rfl (.faE rfl (hx.ne (by omega)) rfl (.guard rfl rfl rfl rfl (.faE rfl (hx.ne (by omega)) rfl (.guard rfl rfl rfl rfl (.ldG (off := 3) (.int .i64 l[k].s.node) hx hkl rfl (fun vs e => by obtain ⟨tv, rfl, _⟩ := e; rfl) rfl rfl (.guard rfl rfl rfl rfl (.mv rfl rfl (.guard rfl rfl rfl rfl (.mv rfl rfl (.guard rfl rfl rfl rfl (.ix (i := k) hx rfl rfl rfl hkl rfl (.guard rfl rfl rfl rfl (.faE rfl (hx.ne (by omega)) rfl (.guard rfl rfl rfl rfl (.faE rfl (hx.ne (by omega)) rfl (.guard rfl rfl rfl rfl (.ldG (off := 4) (.string l[k].s.id) hx hkl rfl (fun vs e => by obtain ⟨tv, rfl, _⟩ := e; rfl) rfl rfl (.guard rfl rfl rfl rfl (.mv rfl rfl (.guard rfl rfl rfl rfl (.mv rfl rfl (.guard rfl rfl rfl rfl (.mv rfl rfl (.guard rfl rfl rfl rfl (.ix (i := k) hx rfl rfl rfl hkl rfl (.guard rfl rfl rfl rfl (.faE rfl (hx.ne (by omega)) rfl (.guard rfl rfl rfl rfl (.faE rfl (hx.ne (by omega)) rfl (.guard rfl rfl rfl rfl (.ldG (off := 3) (.int .i64 l[k].s.node) hx hkl rfl (fun vs e => by obtain ⟨tv, rfl, _⟩ := e; rfl) rfl rfl (.guard rfl rfl rfl rfl (.mv rfl rfl (.guard rfl rfl rfl rfl (.mv rfl rfl (.guard rfl rfl rfl rfl (.ix (i := k) hx rfl rfl rfl hkl rfl (.guard rfl rfl rfl rfl (.faE rfl (hx.ne (by omega)) rfl (.guard rfl rfl rfl rfl (.faE rfl (hx.ne (by omega)) rfl (.guard rfl rfl rfl rfl (.ldG (off := 4) (.string l[k].s.id) hx hkl rfl (fun vs e => by obtain ⟨tv, rfl, _⟩ := e; rfl) rfl rfl (.guard rfl rfl rfl rfl (?_))))))))))))))))))))))))))))))))))))))))))))))))))))))))))
    refine .callR rfl rfl (health_walk hr1 hwf.ne hr2 hwf.ne) rfl rfl (.guard rfl rfl rfl rfl (?_))
    refine .callR rfl rfl (rfhealth_walk (W := tellR R) hc) rfl rfl (.guard rfl rfl rfl rfl (.cmp (b := false) rfl rfl (by simp [cmpI, health_tell]) rfl (.pick rfl rfl rfl rfl (.done (.thenN ?_)))))
    refine .condF rfl ?_
    refine .skip (.blkN (.thenN ?_))
    refine .text (.mv rfl rfl (.inc rfl rfl (by omega) rfl (.as_ rfl rfl (.done (.thenN ?_)))))
    refine J.shut6 fun _ _ _ _ _ => ?_
    exact J.again (k + 1, R, h28, _, _) (by dsimp only; omega) ⟨hkl, Hp.le_trans hle hl28, hk, hwf, hRoc, hWc⟩ (.cons rfl (.cons rfl (.cons rfl (.cons rfl (.nil _))))) rfl rfl
  ·
    refine .exit (.thenE (.thenE (.blkHit (.thenN ?_))))
    refine .seq (.text (.mv rfl rfl (.mv rfl rfl (?_))))
    refine .callR rfl rfl (same_walk hRo hwf hW) rfl rfl (.mv rfl rfl (.guard rfl rfl rfl rfl (?_)))
    refine .callH rfl rfl rworks_walk rfl rfl fun u98 h98 hl98 hu98 => ?_
    subst hu98
    refine .pick rfl rfl rfl rfl (.as_ rfl rfl (.done (.thenN ?_)))
    refine .ret ?_
    exact J.retH rfl rfl
end Go.Sod
