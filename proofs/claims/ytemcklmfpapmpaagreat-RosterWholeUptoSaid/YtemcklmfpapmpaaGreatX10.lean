/-
  RosterWhole, walked. Conditions: none.
-/
import Derived.Test.YtemcklmfpapmpaaGreatX9
import Derived.Test.YtemcklmfpapmpaaGreatRosLaw4
namespace Go.Sod
set_option linter.unusedVariables false
set_option linter.unusedSimpArgs false
set_option maxRecDepth 10000
set_option maxHeartbeats 4000000

section
variable {C : Cx} {ds : List Deferred} {env : Env} {h : Hp} {L : List Hp} {Q : Exit → Act → World → Prop} {ops : Array Oper} {rest : List (Oper × Kd)} {k : Kd} {d : Nat} {ty : TypeId} {pos : String} {after : Array Edge}
theorem J.addN {x y : Operand} {m n : Nat} {t t' : TypeId} (ex : evE env x = some (.int .i64 (m : Int))) (ey : evE env y = some (.int .i64 (n : Int))) (hn : m + n < 4611686018427387904) (hlt : Nat.blt d C.nt = true)
    (j : J C (WC C.r C.P ops Q rest) ds ((d, .int .i64 ((m + n : Nat) : Int)) :: env) h L) :
    J C (WC C.r C.P ops Q ((⟨some d, .binOp .add t x y t', ty, pos, after, none⟩, k) :: rest)) ds env h L :=
  J.ar ex ey (by show some _ = _; rw [wrap64_id (by omega) (by omega)]; rfl) hlt j
end
theorem cntF_le {α : Type} {f : α → Int} {ss : List α} {ns : List Int} (k : Nat) : cntF f ss (ns.take k) ≤ cntF f ss ns := by
  have : cntF f ss ns = cntF f ss (ns.take k) + cntF f ss (ns.drop k) := by
    unfold cntF
    rw [← List.sum_append, ← List.map_append, List.take_append_drop]
  omega

theorem rosterWhole_walk {h : Hp} {l : List Stp} {lv : Value} (hl : SlR h 18 RStp lv l) (hsm : ∀ s, s ∈ l → StpSm s) : FH Go.Proofs.Tryz.prog 4 [lv] h (fun r h' => r = .bool true) := by
  obtain ⟨lA, lc, rfl⟩ := hl.form
  refine FS.enter Go.Proofs.Tryz.func4 rfl rfl fun w0 => ?_
  refine .seq (.text (.as_ rfl rfl (.done (.thenN ?_))))
  refine .seq (.text (.call0 rfl rfl rnew_walk rfl rfl fun u9 h9 ms9 hl9 hu9 => ?_))
  obtain ⟨_, rp, m, rfl, rfl, hR⟩ := hu9
  simp only [List.singleton_append]
  refine .as_ rfl rfl (.done (.thenN ?_))
  refine .seq (.seq (.text (.as_ rfl rfl (.done (.thenN ?_)))))
  refine .block (?_)
  refine J.loop (ι := Nat × Rst × Hp × Hp) (fun i => i.1 ≤ l.length ∧ h.le i.2.2.1 ∧ RKey i.2.1 ∧ RWf i.2.1 ∧ Whl i.2.1 ∧ Ro i.2.2.2 i.2.2.1 rp i.2.1) (fun i => [(0, .slice lA l.length lc), (3, .pointer (some ⟨rp, 0, none⟩)), (4, .int .i64 (i.1 : Int))]) (fun i => i.2.2.1) (fun i => [i.2.2.2]) (fun i => l.length - i.1) (0, rst0 (min (max 64 1) 64), h9, m) ⟨Nat.zero_le _, hl9, rst0_key _, rst0_wf (by omega) (by omega), rst0_whl _, hR⟩ (.cons rfl (.cons rfl (.cons rfl (.nil _)))) rfl rfl ?_
  rintro ⟨k, R, h1, m⟩ ⟨hk0, hle, hk, hwf, hwh, hRo⟩
  dsimp only at hk0 hle hk hwf hwh hRo ⊢
  have hx := hl.mono RStp.mono hle
  have hmx := hx.len
  unfold maxL at hmx
  refine .seq (.seq (.text (.mv rfl rfl (.mv rfl rfl (.len hx rfl rfl rfl (.cmp rfl rfl rfl rfl (.mv rfl rfl (.and (d := 24) (g := 21) _ _ (take_drop 3) rfl rfl (fun hb3_5 => .guard rfl rfl rfl rfl (.mv rfl rfl (.guard rfl rfl rfl rfl (.cmp rfl rfl rfl rfl (.pick rfl rfl rfl rfl ((.done (.thenN (.midB rfl))))))))) (.guardNo rfl rfl rfl rfl rfl rfl (.guardNo rfl rfl rfl rfl rfl rfl (.pick rfl rfl rfl rfl ((.done (.thenN (.midB rfl))))))) (.done (.thenN ?_))))))))))
  refine .cond rfl (fun hb3 => ?_) (fun hb3 => ?_)
  ·
    have hkl : k < l.length := by simp at hb3; omega
    refine .skip (.thenN ?_)
    refine .seq (.block (.draw [(0, .pure), (2, .pure), (3, .pure), (4, .pure), (5, .read), (1, .grow), (6, .mut)] rfl (by kernel_rfl) (.mv rfl rfl (.mv rfl rfl (.mv rfl rfl (.ix (i := k) hx rfl rfl rfl hkl rfl (.ldE hx hkl rfl rfl rfl fun vs hvs => ?_)))))))
    obtain ⟨tv, rfl, htv⟩ := hvs
    refine ?_
    refine .call0 rfl rfl rfnew_walk rfl rfl fun u28 h28 ms28 hl28 hu28 => ?_
    obtain ⟨e28, wb, rfl, rfl⟩ := hu28
    have e28 := e28.symm
    subst e28
    simp only [List.singleton_append]
    refine J.front 1 rfl ?_
    refine ?_
    refine .callA rfl rfl (step_walk (W := ⟨clampM 1, [], [], [], 0, 0, 0⟩) hRo hwf ⟨_, _, _, rfl, SlR.nil _ _ _, SlR.nil _ _ _, SlR.nil _ _ _⟩ ⟨by simp, by simp, by simp⟩ htv (hsm _ (List.getElem_mem hkl))) rfl rfl fun u33 h33 L33 hl33 hu33 => ?_
    obtain ⟨m2, mw2, rfl, e33, hRo, hW⟩ := hu33
    refine .done (.blkN (.thenN ?_))
    refine .text (.mv rfl rfl (.inc rfl rfl (by omega) rfl (.as_ rfl rfl (.done (.thenN ?_)))))
    exact J.front 1 rfl (J.dropF 1 (J.again (k + 1, stepR R l[k], h33, m2) (by dsimp only; omega) ⟨hkl, Hp.le_trans hle hl33, stepR_key hk hwf _, stepR_wf hwf _, stepR_whl hk hwf hwh _, hRo⟩ (.cons rfl (.cons rfl (.cons rfl (.nil _)))) rfl rfl))
  ·
    have hRoc := hRo
    obtain ⟨t0, t1, t2, m0, m1, m2, hb, rfl, d0, d1, T0, T1, T2⟩ := hRo
    obtain ⟨rv0, mr0, rfl, dd0, hr0⟩ := T0
    obtain ⟨rv1, mr1, rfl, dd1, hr1⟩ := T1
    obtain ⟨rv2, mr2, rfl, dd2, hr2⟩ := T2
    haveI : ∀ L, At h1 L rp (.cells ⟨rosV t0 t1 t2⟩ 66 (0, 0)) := fun L => At.ofH hb
    refine J.open6 d0 d1 dd0 dd1 dd2 ?_
    refine .exit (.thenE (.thenE (.blkHit (.thenN ?_))))
    refine .seq (.text (.mv rfl rfl (?_)))
    refine .callG rfl rfl (nodes_walk hr0 hwf.ne) rfl rfl fun u35 h35 hl35 hN => ?_
    have hb := hl35 _ _ hb
    haveI : ∀ L, At h35 L rp (.cells ⟨rosV t0 t1 t2⟩ 66 (0, 0)) := fun L => At.ofH hb
    have hr1 := hr1.mono (RRow.mono RSvc.mono) hl35
    have hr2 := hr2.mono (RRow.mono RChk.mono) hl35
    refine .mv rfl rfl (?_)
    refine .callG rfl rfl (services_walk hr1 hwf.ne) rfl rfl fun u37 h37 hl37 hS => ?_
    have hb := hl37 _ _ hb
    haveI : ∀ L, At h37 L rp (.cells ⟨rosV t0 t1 t2⟩ 66 (0, 0)) := fun L => At.ofH hb
    have hr2 := hr2.mono (RRow.mono RChk.mono) hl37
    have hN := hN.mono RNod.mono hl37
    refine .mv rfl rfl (?_)
    refine .callG rfl rfl (checks_walk hr2 hwf.ne) rfl rfl fun u39 h39 hl39 hC => ?_
    refine J.shut6 fun _ _ _ _ _ => ?_
    refine J.gen1 (p := fun m => Ro m h39 rp (R)) (hRoc.mono (Hp.le_trans hl35 (Hp.le_trans hl37 hl39))) fun m hRo => ?_
    have hN := hN.mono RNod.mono hl39
    have hS := hS.mono RSvc.mono hl39
    obtain ⟨nA, nc, rfl⟩ := hN.form
    obtain ⟨sA, sc, rfl⟩ := hS.form
    obtain ⟨cA, cc, rfl⟩ := hC.form
    have hNl : (R.n.map toldN).length ≤ 64 := by rw [List.length_map]; exact hwf.ln
    have hSl : (R.s.map toldS).length ≤ 64 := by rw [List.length_map]; exact hwf.ls
    have hCl : (R.c.map toldC).length ≤ 64 := by rw [List.length_map]; exact hwf.lc
    have hcs := whole_s hk hwf hwh
    have hcc := whole_c hk hwf hwh
    have hnl : (nodesOf R).length = (R.n.map toldN).length := by unfold nodesOf; rw [List.length_map]
    refine .as_ rfl rfl (.as_ rfl rfl (.as_ rfl rfl (.done (.thenN ?_))))
    refine .seq (.text (.as_ rfl rfl (.as_ rfl rfl (.done (.thenN ?_)))))
    refine .seq (.seq (.text (.as_ rfl rfl (.done (.thenN ?_)))))
    refine .block (?_)
    refine J.loop (ι := Nat × Hp × Hp) (fun i => i.1 ≤ (R.n.map toldN).length ∧ h39.le i.2.1 ∧ Ro i.2.2 i.2.1 rp R) (fun i => [(3, .pointer (some ⟨rp, 0, none⟩)), (5, .slice nA (R.n.map toldN).length nc), (6, .slice sA (R.s.map toldS).length sc), (7, .slice cA (R.c.map toldC).length cc), (8, .int .i64 ((cntF (·.node) (R.s.map toldS) ((nodesOf R).take i.1) : Nat) : Int)), (9, .int .i64 ((cntF (·.node) (R.c.map toldC) ((nodesOf R).take i.1) : Nat) : Int)), (10, .int .i64 (i.1 : Int))]) (fun i => i.2.1) (fun i => [i.2.2]) (fun i => (R.n.map toldN).length - i.1) (0, h39, m) ⟨Nat.zero_le _, Hp.le_refl _, hRo⟩ (.cons rfl (.cons rfl (.cons rfl (.cons rfl (.cons rfl (.cons rfl (.cons rfl (.nil _)))))))) rfl rfl ?_
    rintro ⟨i, h5, m⟩ ⟨hi0, hl5, hRo⟩
    dsimp only at hi0 hl5 hRo ⊢
    have hN := hN.mono RNod.mono hl5
    have hS := hS.mono RSvc.mono hl5
    have hC := hC.mono RChk.mono hl5
    refine .seq (.seq (.text (.mv rfl rfl (.mv rfl rfl (.len hN rfl rfl rfl (.cmp rfl rfl rfl rfl (.done (.thenN ?_))))))))
    refine .cond rfl (fun hb9 => ?_) (fun hb9 => ?_)
    ·
      have hi : i < (R.n.map toldN).length := by have := of_decide_eq_true hb9; omega
      have hn1 : (nodesOf R)[i]'(by omega) = ((R.n.map toldN)[i]'hi).node := by simp [nodesOf]
      have q1 := cntF_succ (f := fun s : Svc => s.node) (ss := (R.s.map toldS)) (ns := nodesOf R) (k := i) (by omega)
      have q2 := cntF_succ (f := fun s : Chk => s.node) (ss := (R.c.map toldC)) (ns := nodesOf R) (k := i) (by omega)
      rw [hn1] at q1 q2
      have q3 := cntF_le (f := fun s : Svc => s.node) (ss := (R.s.map toldS)) (ns := nodesOf R) (i + 1)
      have q4 := cntF_le (f := fun s : Chk => s.node) (ss := (R.c.map toldC)) (ns := nodesOf R) (i + 1)
      refine .skip (.thenN ?_)
      refine .seq (.block (.seq (.text (.mv rfl rfl (.mv rfl rfl (.mv rfl rfl (.ix (i := i) hN rfl rfl rfl hi rfl (.faE rfl (hN.ne (by omega)) rfl (.ldG (.int .i64 ((R.n.map toldN)[i]'hi).node) hN hi rfl (fun vs e => by obtain rfl := e; rfl) rfl rfl (?_))))))))))
      have hRoc := hRo
      obtain ⟨t0, t1, t2, m0, m1, m2, hb, rfl, d0, d1, T0, T1, T2⟩ := hRo
      obtain ⟨rv0, mr0, rfl, dd0, hr0⟩ := T0
      obtain ⟨rv1, mr1, rfl, dd1, hr1⟩ := T1
      obtain ⟨rv2, mr2, rfl, dd2, hr2⟩ := T2
      haveI : ∀ L, At h5 L rp (.cells ⟨rosV t0 t1 t2⟩ 66 (0, 0)) := fun L => At.ofH hb
      refine J.open6 d0 d1 dd0 dd1 dd2 ?_
      refine .callG rfl rfl (of_walk hr1 hwf.ne hr2 hwf.ne) rfl rfl fun u53 h53 hl53 hu53 => ?_
      obtain ⟨sv, cv, rfl, hA, hB⟩ := hu53
      refine J.shut6 fun _ _ _ _ _ => ?_
      refine J.gen1 (p := fun m => Ro m h53 rp (R)) (hRoc.mono hl53) fun m hRo => ?_
      obtain ⟨aA, ac, rfl⟩ := hA.form
      obtain ⟨bA, bc, rfl⟩ := hB.form
      have hN := hN.mono RNod.mono hl53
      refine .mv rfl rfl (.ext rfl rfl rfl (.ext rfl rfl rfl (.as_ rfl rfl (.as_ rfl rfl (.done (.thenN ?_))))))
      refine .seq (.text (.mv rfl rfl (.mv rfl rfl (.len hA rfl rfl rfl (.addN rfl rfl (by omega) rfl (.as_ rfl rfl (.done (.thenN ?_))))))))
      refine .seq (.text (.mv rfl rfl (.mv rfl rfl (.len hB rfl rfl rfl (.addN rfl rfl (by omega) rfl (.as_ rfl rfl (.done (.thenN ?_))))))))
      refine .seq (.text (.as_ rfl rfl (.done (.thenN ?_))))
      refine .block (?_)
      rw [← q1, ← q2]
      refine J.loop (fun j : Nat => j ≤ ((R.c.map toldC).filter fun s => decide (s.node = ((R.n.map toldN)[i]'hi).node)).length) (fun j => [(3, .pointer (some ⟨rp, 0, none⟩)), (5, .slice nA (R.n.map toldN).length nc), (6, .slice sA (R.s.map toldS).length sc), (7, .slice cA (R.c.map toldC).length cc), (8, .int .i64 ((cntF (·.node) (R.s.map toldS) ((nodesOf R).take (i + 1)) : Nat) : Int)), (9, .int .i64 ((cntF (·.node) (R.c.map toldC) ((nodesOf R).take (i + 1)) : Nat) : Int)), (10, .int .i64 (i : Int)), (11, .slice aA ((R.s.map toldS).filter fun s => decide (s.node = ((R.n.map toldN)[i]'hi).node)).length ac), (12, .slice bA ((R.c.map toldC).filter fun s => decide (s.node = ((R.n.map toldN)[i]'hi).node)).length bc), (13, .int .i64 (j : Int))]) (fun _ => h53) (fun _ => [m]) (fun j => ((R.c.map toldC).filter fun s => decide (s.node = ((R.n.map toldN)[i]'hi).node)).length - j) 0 (Nat.zero_le _) (.cons rfl (.cons rfl (.cons rfl (.cons rfl (.cons rfl (.cons rfl (.cons rfl (.cons rfl (.cons rfl (.cons rfl (.nil _))))))))))) rfl rfl ?_
      rintro j hj0
      have hBl := hB.len
      have hAl := hA.len
      unfold maxL at hBl hAl
      refine .seq (.seq (.text (.mv rfl rfl (.mv rfl rfl (.len hB rfl rfl rfl (.cmp rfl rfl rfl rfl (.done (.thenN ?_))))))))
      refine .cond rfl (fun hb15 => ?_) (fun hb15 => ?_)
      ·
        have hj : j < ((R.c.map toldC).filter fun s => decide (s.node = ((R.n.map toldN)[i]'hi).node)).length := by have := of_decide_eq_true hb15; omega
        have hmem := List.mem_filter.1 (List.getElem_mem hj)
        have hnode : (((R.c.map toldC).filter fun s => decide (s.node = ((R.n.map toldN)[i]'hi).node))[j]'hj).node = ((R.n.map toldN)[i]'hi).node := of_decide_eq_true hmem.2
        have hwi := whole_is hk hwf hwh hmem.1
        rw [hnode] at hwi
        refine .skip (.thenN ?_)
        refine .seq (.block (.seq (.text (.mv rfl rfl (.mv rfl rfl (.ix (i := j) hB rfl rfl rfl hj rfl (.faE rfl (hB.ne (by omega)) rfl (.ldG (.string (((R.c.map toldC).filter fun s => decide (s.node = ((R.n.map toldN)[i]'hi).node))[j]'hj).service) hB hj rfl (fun vs e => by obtain rfl := e; rfl) rfl rfl (.cmpS rfl rfl rfl rfl (.as_ rfl rfl (.done (.thenN ?_))))))))))))
        refine .seq (.seq (.text (.as_ rfl rfl (.done (.thenN ?_)))))
        refine .block (?_)
        refine J.loop (fun q : Nat => q ≤ ((R.s.map toldS).filter fun s => decide (s.node = ((R.n.map toldN)[i]'hi).node)).length) (fun q => [(3, .pointer (some ⟨rp, 0, none⟩)), (5, .slice nA (R.n.map toldN).length nc), (6, .slice sA (R.s.map toldS).length sc), (7, .slice cA (R.c.map toldC).length cc), (8, .int .i64 ((cntF (·.node) (R.s.map toldS) ((nodesOf R).take (i + 1)) : Nat) : Int)), (9, .int .i64 ((cntF (·.node) (R.c.map toldC) ((nodesOf R).take (i + 1)) : Nat) : Int)), (10, .int .i64 (i : Int)), (11, .slice aA ((R.s.map toldS).filter fun s => decide (s.node = ((R.n.map toldN)[i]'hi).node)).length ac), (12, .slice bA ((R.c.map toldC).filter fun s => decide (s.node = ((R.n.map toldN)[i]'hi).node)).length bc), (13, .int .i64 (j : Int)), (14, .bool (decide ((((R.c.map toldC).filter fun s => decide (s.node = ((R.n.map toldN)[i]'hi).node))[j]'hj).service = ⟨#[]⟩) || (((R.s.map toldS).filter fun s => decide (s.node = ((R.n.map toldN)[i]'hi).node)).take q).any fun s => decide (s.id = (((R.c.map toldC).filter fun s => decide (s.node = ((R.n.map toldN)[i]'hi).node))[j]'hj).service))), (15, .int .i64 (q : Int))]) (fun _ => h53) (fun _ => [m]) (fun q => ((R.s.map toldS).filter fun s => decide (s.node = ((R.n.map toldN)[i]'hi).node)).length - q) 0 (Nat.zero_le _) (.cons rfl (.cons rfl (.cons rfl (.cons rfl (.cons rfl (.cons rfl (.cons rfl (.cons rfl (.cons rfl (.cons rfl (.cons ?_ (.cons rfl (.nil _))))))))))))) rfl rfl ?_
        · simp; rfl
        rintro q hq0
        refine .seq (.seq (.text (.mv rfl rfl (.mv rfl rfl (.len hA rfl rfl rfl (.cmp rfl rfl rfl rfl (.done (.thenN ?_))))))))
        refine .cond rfl (fun hb19 => ?_) (fun hb19 => ?_)
        ·
          have hq : q < ((R.s.map toldS).filter fun s => decide (s.node = ((R.n.map toldN)[i]'hi).node)).length := by have := of_decide_eq_true hb19; omega
          refine .skip (.thenN ?_)
          refine .seq (.block (.draw [(0, .pure), (1, .pure), (2, .pure), (3, .pure), (4, .pure), (5, .pure), (6, .read), (7, .pure), (8, .pure), (9, .pure), (10, .pure), (11, .read), (12, .pure), (13, .pure), (14, .pure)] rfl (by kernel_rfl) (.mv rfl rfl (.mv rfl rfl (.or (d := 95) (g := 83) _ _ (take_drop 12) rfl rfl (fun hb21_2 => .guard rfl rfl rfl rfl (.mv rfl rfl (.guard rfl rfl rfl rfl (.mv rfl rfl (.guard rfl rfl rfl rfl (.ix (i := q) hA rfl rfl rfl hq rfl (.guard rfl rfl rfl rfl (.faE rfl (hA.ne (by omega)) rfl (.guard rfl rfl rfl rfl (.ldG (.string (((R.s.map toldS).filter fun s => decide (s.node = ((R.n.map toldN)[i]'hi).node))[q]'hq).id) hA hq rfl (fun vs e => by obtain ⟨tv, rfl, _⟩ := e; rfl) rfl rfl (.guard rfl rfl rfl rfl (.mv rfl rfl (.guard rfl rfl rfl rfl (.mv rfl rfl (.guard rfl rfl rfl rfl (.ix (i := j) hB rfl rfl rfl hj rfl (.guard rfl rfl rfl rfl (.faE rfl (hB.ne (by omega)) rfl (.guard rfl rfl rfl rfl (.ldG (.string (((R.c.map toldC).filter fun s => decide (s.node = ((R.n.map toldN)[i]'hi).node))[j]'hj).service) hB hj rfl (fun vs e => by obtain rfl := e; rfl) rfl rfl (.guard rfl rfl rfl rfl (.cmpS rfl rfl rfl rfl (.pick rfl rfl rfl rfl ((.done (.thenN (.midB rfl))))))))))))))))))))))))))) (.guardNo rfl rfl rfl rfl rfl rfl (.guardNo rfl rfl rfl rfl rfl rfl (.guardNo rfl rfl rfl rfl rfl rfl (.guardNo rfl rfl rfl rfl rfl rfl (.guardNo rfl rfl rfl rfl rfl rfl (.guardNo rfl rfl rfl rfl rfl rfl (.guardNo rfl rfl rfl rfl rfl rfl (.guardNo rfl rfl rfl rfl rfl rfl (.guardNo rfl rfl rfl rfl rfl rfl (.guardNo rfl rfl rfl rfl rfl rfl (.guardNo rfl rfl rfl rfl rfl rfl (.pick rfl rfl rfl rfl ((.done (.thenN (.midB rfl)))))))))))))))) (.as_ rfl rfl (.done (.blkN (.thenN ?_)))))))))
          refine .text (.mv rfl rfl (.inc rfl rfl (by omega) rfl (.as_ rfl rfl (.done (.thenN ?_)))))
          refine J.again (q + 1) (by omega) hq (.cons rfl (.cons rfl (.cons rfl (.cons rfl (.cons rfl (.cons rfl (.cons rfl (.cons rfl (.cons rfl (.cons rfl (.cons ?_ (.cons rfl (.nil _))))))))))))) rfl rfl
          rw [any_take_succ hq, ← Bool.or_assoc]; rfl
        ·
          have hq : q = ((R.s.map toldS).filter fun s => decide (s.node = ((R.n.map toldN)[i]'hi).node)).length := by have := of_decide_eq_false hb19; omega
          subst hq
          rw [List.take_length, hwi]
          refine .exit (.thenE (.thenE (.blkHit (.thenN ?_))))
          refine .seq (.draw [(0, .pure), (1, .pure), (2, .pure), (3, .pure), (4, .pure), (5, .pure), (6, .pure), (7, .read), (8, .pure), (9, .pure), (10, .pure), (11, .pure), (12, .read), (13, .pure), (14, .pure)] rfl (by kernel_rfl) (.mv rfl rfl (.not rfl rfl (.mv rfl rfl (.guard rfl rfl rfl rfl (.mv rfl rfl (.guard rfl rfl rfl rfl (.mv rfl rfl (.guard rfl rfl rfl rfl (.ix (i := j) hB rfl rfl rfl hj rfl (.guard rfl rfl rfl rfl (.faE rfl (hB.ne (by omega)) rfl (.guard rfl rfl rfl rfl (.ldG (.int .i64 (((R.c.map toldC).filter fun s => decide (s.node = ((R.n.map toldN)[i]'hi).node))[j]'hj).node) hB hj rfl (fun vs e => by obtain rfl := e; rfl) rfl rfl (.guard rfl rfl rfl rfl (.mv rfl rfl (.guard rfl rfl rfl rfl (.mv rfl rfl (.guard rfl rfl rfl rfl (.ix (i := i) hN rfl rfl rfl hi rfl (.guard rfl rfl rfl rfl (.faE rfl (hN.ne (by omega)) rfl (.guard rfl rfl rfl rfl (.ldG (.int .i64 ((R.n.map toldN)[i]'hi).node) hN hi rfl (fun vs e => by obtain rfl := e; rfl) rfl rfl (.guard rfl rfl rfl rfl (.cmp (b := false) rfl rfl (by rw [hnode]; simp [cmpI]) rfl (.pick rfl rfl rfl rfl (.done (.thenN ?_)))))))))))))))))))))))))))))
          refine .condF rfl ?_
          refine .skip (.blkN (.thenN ?_))
          refine .text (.mv rfl rfl (.inc rfl rfl (by omega) rfl (.as_ rfl rfl (.done (.thenN ?_)))))
          exact J.again (j + 1) (by omega) hj (.cons rfl (.cons rfl (.cons rfl (.cons rfl (.cons rfl (.cons rfl (.cons rfl (.cons rfl (.cons rfl (.cons rfl (.nil _))))))))))) rfl rfl
      ·
        refine .exit (.thenE (.thenE (.blkHit (.blkN (.thenN ?_)))))
        refine .text (.mv rfl rfl (.inc rfl rfl (by omega) rfl (.as_ rfl rfl (.done (.thenN ?_)))))
        exact J.again (i + 1, h53, m) (by dsimp only; omega) ⟨hi, Hp.le_trans hl5 hl53, hRo⟩ (.cons rfl (.cons rfl (.cons rfl (.cons rfl (.cons rfl (.cons rfl (.cons rfl (.nil _)))))))) rfl rfl
    ·
      have hi : i = (R.n.map toldN).length := by have := of_decide_eq_false hb9; omega
      rw [show (nodesOf R).take i = nodesOf R from by rw [hi, ← hnl, List.take_length]]
      refine .exit (.thenE (.thenE (.blkHit (.thenN ?_))))
      refine .seq (.text (.mv rfl rfl (.mv rfl rfl (.len hS rfl rfl rfl (.cmp (b := true) rfl rfl (by rw [hcs]; simp [cmpI]) rfl (.mv rfl rfl (.guard rfl rfl rfl rfl (.mv rfl rfl (.guard rfl rfl rfl rfl (.mv rfl rfl (.guard rfl rfl rfl rfl (.len hC rfl rfl rfl (.guard rfl rfl rfl rfl (.cmp (b := true) rfl rfl (by rw [hcc]; simp [cmpI]) rfl (.pick rfl rfl rfl rfl (.mv rfl rfl (.guard rfl rfl rfl rfl (?_))))))))))))))))))
      refine .callH rfl rfl rworks_walk rfl rfl fun u122 h122 hl122 hu122 => ?_
      subst hu122
      refine .pick rfl rfl rfl rfl (.as_ rfl rfl (.done (.thenN ?_)))
      refine .ret ?_
      exact J.retH rfl rfl
end Go.Sod
