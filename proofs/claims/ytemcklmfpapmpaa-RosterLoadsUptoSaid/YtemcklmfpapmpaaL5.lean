/-
  The law RosterLoads, walked. Conditions: none.
-/
import Derived.Test.YtemcklmfpapmpaaL4
namespace Go.Sod
set_option linter.unusedVariables false
set_option linter.unusedSimpArgs false
set_option maxRecDepth 10000
set_option maxHeartbeats 4000000
theorem rl_none {h : Hp} {most : Int} {nv sv cv : Value} {ns : List Nod} {ss : List Svc} {cs : List Chk} {l0 l1 l2 : Int} (hn : SlR h 4 RNod nv ns) (hs : SlR h 7 RSvc sv ss) (hc : SlR h 7 RChk cv cs) (hsm : ∀ s, s ∈ ss → SvcSm s) (hcm : ∀ c, c ∈ cs → ChkSm c) (hP : loadP most ns ss cs l0 l1 l2 = none) (hW : loadW most ns ss cs l0 l1 l2 = none) : FH Go.Proofs.Try.prog 3 [.int .i64 most, .agg ⟨[nv, sv, cv, .int .u64 l0, .int .u64 l1, .int .u64 l2]⟩] h (fun r h' => r = .bool true) := by
  refine FS.enter Go.Proofs.Try.func3 rfl rfl fun w0 => ?_
  obtain ⟨nA, nc, rfl⟩ := hn.form
  obtain ⟨sA, sc, rfl⟩ := hs.form
  obtain ⟨cA, cc, rfl⟩ := hc.form
  refine .seq (.text (.box (cs := [_, _, _, _, _, _]) rfl rfl rfl rfl fun b3 => .as_ rfl rfl (.done (.thenN ?_))))
  refine .seq (.text (.mv rfl rfl (.fa rfl rfl (.ld rfl rfl rfl rfl (.fa rfl rfl (.ld rfl rfl rfl rfl (.fa rfl rfl (.ld rfl rfl rfl rfl (.fa rfl rfl (.ldA [.int .u64 l0, .int .u64 l1, .int .u64 l2] rfl rfl rfl rfl rfl (?_)))))))))))
  refine .call0 rfl rfl (load_walk hn hs hc hsm hcm) rfl rfl fun u18 h18 ms18 hl18 hu18 => ?_
  rw [hP] at hu18
  obtain ⟨rfl, rfl⟩ := hu18
  simp only [List.nil_append]
  have hn := hn.mono RNod.mono hl18
  have hs := hs.mono RSvc.mono hl18
  have hc := hc.mono RChk.mono hl18
  refine .mv rfl rfl (.ext rfl rfl rfl (.ext rfl rfl rfl (.as_ rfl rfl (.as_ rfl rfl (.done (.thenN ?_))))))
  refine .seq (.text (.mv rfl rfl (.fa rfl rfl (.ld rfl rfl rfl rfl (.fa rfl rfl (.ld rfl rfl rfl rfl (.fa rfl rfl (.ld rfl rfl rfl rfl (.fa rfl rfl (.ldA [.int .u64 l0, .int .u64 l1, .int .u64 l2] rfl rfl rfl rfl rfl (?_)))))))))))
  refine .call0 rfl rfl (rfload_walk hn hs hc) rfl rfl fun u30 h30 ms30 hl30 hu30 => ?_
  rw [hW] at hu30
  obtain ⟨rfl, rfl⟩ := hu30
  simp only [List.nil_append]
  refine .as_ rfl rfl (.done (.thenN ?_))
  refine .seq (.seq (.text (.mv rfl rfl (.eqPtr (b := true) rfl rfl (.inl ⟨rfl, rfl⟩) rfl (.done (.thenN ?_))))))
  refine .condT rfl ?_
  refine .seq (.text (.mv rfl rfl (.cmp (b := true) rfl rfl rfl rfl (.mv rfl rfl (.guard rfl rfl rfl rfl (.mv rfl rfl (.guard rfl rfl rfl rfl (.eqPtr (b := true) rfl rfl (.inl ⟨rfl, rfl⟩) rfl (.pick rfl rfl rfl rfl (.mv rfl rfl (.guard rfl rfl rfl rfl (?_))))))))))))
  refine .callH rfl rfl rworks_walk rfl rfl fun u40 h40 hl40 hu40 => ?_
  subst hu40
  refine .pick rfl rfl rfl rfl (.as_ rfl rfl (.done (.thenN ?_)))
  refine .ret (.thenR ?_)
  exact J.retH rfl rfl

theorem rl_some {h : Hp} {most : Int} {nv sv cv : Value} {ns : List Nod} {ss : List Svc} {cs : List Chk} {l0 l1 l2 : Int} (hn : SlR h 4 RNod nv ns) (hs : SlR h 7 RSvc sv ss) (hc : SlR h 7 RChk cv cs) (hsm : ∀ s, s ∈ ss → SvcSm s) (hcm : ∀ c, c ∈ cs → ChkSm c) {R : Rst} (hP : loadP most ns ss cs l0 l1 l2 = some R) (hW : loadW most ns ss cs l0 l1 l2 = some (tellR R)) (hwf : RWf R) (qn : (tellR R).nodes = ns) (qs : (tellR R).services = ss) (qc : (tellR R).checks = cs) : FH Go.Proofs.Try.prog 3 [.int .i64 most, .agg ⟨[nv, sv, cv, .int .u64 l0, .int .u64 l1, .int .u64 l2]⟩] h (fun r h' => r = .bool true) := by
  refine FS.enter Go.Proofs.Try.func3 rfl rfl fun w0 => ?_
  obtain ⟨nA, nc, rfl⟩ := hn.form
  obtain ⟨sA, sc, rfl⟩ := hs.form
  obtain ⟨cA, cc, rfl⟩ := hc.form
  refine .seq (.text (.box (cs := [_, _, _, _, _, _]) rfl rfl rfl rfl fun b3 => .as_ rfl rfl (.done (.thenN ?_))))
  refine .seq (.text (.mv rfl rfl (.fa rfl rfl (.ld rfl rfl rfl rfl (.fa rfl rfl (.ld rfl rfl rfl rfl (.fa rfl rfl (.ld rfl rfl rfl rfl (.fa rfl rfl (.ldA [.int .u64 l0, .int .u64 l1, .int .u64 l2] rfl rfl rfl rfl rfl (?_)))))))))))
  refine .call0 rfl rfl (load_walk hn hs hc hsm hcm) rfl rfl fun u18 h18 ms18 hl18 hu18 => ?_
  rw [hP] at hu18
  obtain ⟨rp, m, rfl, rfl, hR⟩ := hu18
  simp only [List.singleton_append]
  have hn := hn.mono RNod.mono hl18
  have hs := hs.mono RSvc.mono hl18
  have hc := hc.mono RChk.mono hl18
  refine .mv rfl rfl (.ext rfl rfl rfl (.ext rfl rfl rfl (.as_ rfl rfl (.as_ rfl rfl (.done (.thenN ?_))))))
  refine .seq (.text (.mv rfl rfl (.fa rfl rfl (.ld rfl rfl rfl rfl (.fa rfl rfl (.ld rfl rfl rfl rfl (.fa rfl rfl (.ld rfl rfl rfl rfl (.fa rfl rfl (.ldA [.int .u64 l0, .int .u64 l1, .int .u64 l2] rfl rfl rfl rfl rfl (?_)))))))))))
  refine .call0 rfl rfl (rfload_walk hn hs hc) rfl rfl fun u30 h30 ms30 hl30 hu30 => ?_
  rw [hW] at hu30
  obtain ⟨wb, mw, rfl, rfl, hRb⟩ := hu30
  simp only [List.singleton_append]
  have hR := hR.mono hl30
  have hn := hn.mono RNod.mono hl30
  have hs := hs.mono RSvc.mono hl30
  have hc := hc.mono RChk.mono hl30
  refine .as_ rfl rfl (.done (.thenN ?_))
  refine .seq (.seq (.text (.mv rfl rfl (.eqPtr (b := false) rfl rfl (.inl ⟨rfl, rfl⟩) rfl (.done (.thenN ?_))))))
  refine .condF rfl ?_
  refine .skip (.thenN ?_)
  refine .seq (.draw [(0, .pure), (1, .pure), (2, .pure), (3, .pure), (4, .pure), (5, .mut), (6, .pure), (7, .pure), (8, .pure), (10, .pure), (11, .read), (9, .grow), (12, .grow), (13, .pure), (14, .pure), (15, .pure), (17, .pure), (18, .read), (16, .grow), (19, .grow), (20, .pure), (21, .pure), (22, .pure), (24, .pure), (25, .read), (23, .grow), (26, .grow), (27, .pure), (28, .pure), (29, .grow), (30, .pure), (31, .pure)] rfl (by kernel_rfl) (.mv rfl rfl (.cmp (b := true) rfl rfl rfl rfl (.mv rfl rfl (.guard rfl rfl rfl rfl (.mv rfl rfl (.guard rfl rfl rfl rfl (.mv rfl rfl (.guard rfl rfl rfl rfl (?_))))))))))
  refine J.front 1 rfl ?_
  refine .call (ms := [m, mw]) rfl rfl (same_walk hR hwf hRb) rfl rfl fun u47 h47 ms47 hl47 hu47 => ?_
  obtain ⟨rfl, rfl, rfl⟩ := hu47
  simp only [List.cons_append, List.nil_append]
  obtain ⟨t0, t1, t2, m0, m1, m2, hb, rfl, d0, d1, T0, T1, T2⟩ := hR
  obtain ⟨rv0, mr0, rfl, dd0, hr0⟩ := T0
  obtain ⟨rv1, mr1, rfl, dd1, hr1⟩ := T1
  obtain ⟨rv2, mr2, rfl, dd2, hr2⟩ := T2
  have hb1 := hb
  haveI : ∀ L, At _ L rp (.cells ⟨rosV t0 t1 t2⟩ 69 (0, 0)) := fun L => At.ofH hb
  refine J.open6 d0 d1 dd0 dd1 dd2 ?_
  refine .pick rfl rfl rfl rfl (.mv rfl rfl (.guard rfl rfl rfl rfl (.mv rfl rfl (.guard rfl rfl rfl rfl (.fa rfl rfl (.guard rfl rfl rfl rfl (.ld rfl rfl rfl rfl (.guard rfl rfl rfl rfl (?_)))))))))
  refine .callG rfl rfl (nodes_walk hr0 hwf.ne) rfl rfl fun u51 h51 hl51 hu51 => ?_
  have hb := hl51 _ _ hb
  haveI : ∀ L, At h51 L rp (.cells ⟨rosV t0 t1 t2⟩ 69 (0, 0)) := fun L => At.ofH hb
  have hr0 := hr0.mono (RRow.mono RNod.mono) hl51
  have hr1 := hr1.mono (RRow.mono RSvc.mono) hl51
  have hr2 := hr2.mono (RRow.mono RChk.mono) hl51
  have hn := hn.mono RNod.mono hl51
  have hs := hs.mono RSvc.mono hl51
  have hc := hc.mono RChk.mono hl51
  rw [show R.n.map toldN = ns from qn] at hu51
  refine .guard rfl rfl rfl rfl (?_)
  refine .callV rfl rfl (sameN_walk hu51 hn) rfl rfl (.pick rfl rfl rfl rfl (.mv rfl rfl (.guard rfl rfl rfl rfl (.mv rfl rfl (.guard rfl rfl rfl rfl (.fa rfl rfl (.guard rfl rfl rfl rfl (.ld rfl rfl rfl rfl (.guard rfl rfl rfl rfl (?_))))))))))
  refine .callG rfl rfl (services_walk hr1 hwf.ne) rfl rfl fun u58 h58 hl58 hu58 => ?_
  have hb := hl58 _ _ hb
  haveI : ∀ L, At h58 L rp (.cells ⟨rosV t0 t1 t2⟩ 69 (0, 0)) := fun L => At.ofH hb
  have hr0 := hr0.mono (RRow.mono RNod.mono) hl58
  have hr1 := hr1.mono (RRow.mono RSvc.mono) hl58
  have hr2 := hr2.mono (RRow.mono RChk.mono) hl58
  have hn := hn.mono RNod.mono hl58
  have hs := hs.mono RSvc.mono hl58
  have hc := hc.mono RChk.mono hl58
  rw [show R.s.map toldS = ss from qs] at hu58
  refine .guard rfl rfl rfl rfl (?_)
  refine .callV rfl rfl (sameS_walk hu58 hs) rfl rfl (.pick rfl rfl rfl rfl (.mv rfl rfl (.guard rfl rfl rfl rfl (.mv rfl rfl (.guard rfl rfl rfl rfl (.fa rfl rfl (.guard rfl rfl rfl rfl (.ld rfl rfl rfl rfl (.guard rfl rfl rfl rfl (?_))))))))))
  refine .callG rfl rfl (checks_walk hr2 hwf.ne) rfl rfl fun u65 h65 hl65 hu65 => ?_
  have hb := hl65 _ _ hb
  haveI : ∀ L, At h65 L rp (.cells ⟨rosV t0 t1 t2⟩ 69 (0, 0)) := fun L => At.ofH hb
  have hr0 := hr0.mono (RRow.mono RNod.mono) hl65
  have hr1 := hr1.mono (RRow.mono RSvc.mono) hl65
  have hr2 := hr2.mono (RRow.mono RChk.mono) hl65
  have hn := hn.mono RNod.mono hl65
  have hs := hs.mono RSvc.mono hl65
  have hc := hc.mono RChk.mono hl65
  rw [show R.c.map toldC = cs from qc] at hu65
  refine .guard rfl rfl rfl rfl (?_)
  refine .callV rfl rfl (sameC_walk hu65 hc) rfl rfl (.pick rfl rfl rfl rfl (.mv rfl rfl (.guard rfl rfl rfl rfl (?_))))
  refine .callH rfl rfl rworks_walk rfl rfl fun u71 h71 hl71 hu71 => ?_
  subst hu71
  refine .pick rfl rfl rfl rfl (.as_ rfl rfl (.done (.thenN ?_)))
  refine .ret ?_
  exact J.retH rfl rfl


theorem rosterLoads_walk {h : Hp} {most : Int} {nv sv cv : Value} {ns : List Nod} {ss : List Svc} {cs : List Chk} {l0 l1 l2 : Int} (hn : SlR h 4 RNod nv ns) (hs : SlR h 7 RSvc sv ss) (hc : SlR h 7 RChk cv cs) (hsm : ∀ s, s ∈ ss → SvcSm s) (hcm : ∀ c, c ∈ cs → ChkSm c) (h0 : 0 ≤ l0) (h1 : 0 ≤ l1) (h2 : 0 ≤ l2) : FH Go.Proofs.Try.prog 3 [.int .i64 most, .agg ⟨[nv, sv, cv, .int .u64 l0, .int .u64 l1, .int .u64 l2]⟩] h (fun r h' => r = .bool true) := by
  have law := load_law (most := most) (ns := ns) (ss := ss) (cs := cs) h0 h1 h2
  cases hW : loadW most ns ss cs l0 l1 l2 with
  | none => rw [hW] at law; exact rl_none hn hs hc hsm hcm law hW
  | some W =>
    rw [hW] at law
    obtain ⟨R, hP, rfl, hk, hwf, qn, qs, qc⟩ := law
    exact rl_some hn hs hc hsm hcm hP hW hwf qn qs qc
end Go.Sod
