/-
  A step of the roster's laws, walked. Conditions: none.
-/
import Derived.Test.YtemcklmfpapmpaaGreatRosLaw2
namespace Go.Sod
set_option linter.unusedVariables false
set_option linter.unusedSimpArgs false
set_option maxRecDepth 10000
set_option maxHeartbeats 4000000

def stpV (s : Stp) (tv : Value) : List Value := [.int .i64 s.kind, .int .i64 s.node, .string s.text, .int .i64 s.s.node, .string s.s.id, .string s.s.name, tv, .int .i64 s.s.port, .int .u64 s.s.made, .int .u64 s.s.ix, .int .i64 s.c.node, .string s.c.id, .string s.c.service, .string s.c.note, .int .i64 s.c.status, .int .u64 s.c.made, .int .u64 s.c.ix, .int .u64 s.ix]
structure StpSm (s : Stp) : Prop where
  st : s.text.size ≤ maxL
  ss : SvcSm s.s
  sc : ChkSm s.c

theorem step_walk {rp wb : Nat} {h m mw : Hp} {R : Rst} {W : Rrf} {s : Stp} {tv : Value} (hR : Ro m h rp R) (hw : RWf R) (hW : Rb mw h wb W) (hwf : RfWf W) (htv : SlR h 1 RS tv s.s.tags) (hsm : StpSm s) : FM2 Go.Proofs.Tryz.prog 9 [.pointer (some ⟨rp, 0, none⟩), .pointer (some ⟨wb, 0, none⟩), .agg ⟨stpV s tv⟩] h m mw (fun v h' m' mw' => v = .bool (stepB R W s) ∧ Ro m' h' rp (stepR R s) ∧ Rb mw' h' wb (stepW W s)) := by
  refine FS.enter Go.Proofs.Tryz.func9 rfl rfl fun w0 => ?_
  refine .seq (.text (.box (cs := [_, _, _, _, _, _, _, _, _, _, _, _, _, _, _, _, _, _]) rfl rfl rfl rfl fun b5 => .as_ rfl rfl (.done (.thenN ?_))))
  refine .seq (.seq (?_))
  refine J.frzB fun h1 hl1 hB => ?_
  have hR := hR.mono hl1
  have hW := hW.mono hl1
  have htv := htv.mono RS.mono hl1
  haveI : ∀ L, At h1 L b5 (.cells ⟨stpV s tv⟩ 35 (0, 0)) := fun L => At.ofH hB
  refine .text (.fa rfl rfl (.ld rfl rfl rfl rfl (.done (.thenN ?_))))
  refine .block (.seq (.text (.cmp rfl rfl rfl rfl (.as_ rfl rfl (.done (.thenN ?_))))))
  refine .cond rfl (fun hb2 => ?_) (fun hb2 => ?_)
  ·
    refine J.cut (ι := Hp × Hp × Hp) (fun i => Ro i.2.1 i.1 rp (nodeR R s.node s.text s.ix) ∧ Rb i.2.2 i.1 wb (rfNodeW W s.node s.text s.ix)) (fun i => [(6, .bool (decide (nodeE R s.node s.text = rfNodeE W s.node s.text)))]) (fun i => i.1) (fun i => [i.2.1, i.2.2]) ?_ ?_
    ·
      refine .tree2 (.seq [(0, .pure), (1, .pure), (2, .read), (3, .pure), (4, .read), (5, .pure), (6, .read), (8, .pure), (9, .pure), (11, .pure), (13, .pure)] (.both (.seq [(7, .mut)] (.both (.seq [(10, .grow)] (.both (.seq [(12, .grow), (14, .grow), (15, .mut), (16, .pure), (17, .pure)] .nil) (.seq [(14, .grow), (12, .grow), (15, .mut), (16, .pure), (17, .pure)] .nil))) (.both (.seq [(12, .grow)] (.both (.seq [(10, .grow), (14, .grow), (15, .mut), (16, .pure), (17, .pure)] .nil) (.seq [(14, .grow), (10, .grow), (15, .mut), (16, .pure), (17, .pure)] .nil))) (.seq [(14, .grow)] (.both (.seq [(10, .grow), (12, .grow), (15, .mut), (16, .pure), (17, .pure)] .nil) (.seq [(12, .grow), (10, .grow), (15, .mut), (16, .pure), (17, .pure)] .nil)))))) (.both (.seq [(10, .grow)] (.both (.seq [(7, .mut)] (.both (.seq [(12, .grow), (14, .grow), (15, .mut), (16, .pure), (17, .pure)] .nil) (.seq [(14, .grow), (12, .grow), (15, .mut), (16, .pure), (17, .pure)] .nil))) (.both (.seq [(12, .grow)] (.both (.seq [(7, .mut), (14, .grow), (15, .mut), (16, .pure), (17, .pure)] .nil) (.seq [(14, .grow), (7, .mut), (15, .mut), (16, .pure), (17, .pure)] .nil))) (.seq [(14, .grow)] (.both (.seq [(7, .mut), (12, .grow), (15, .mut), (16, .pure), (17, .pure)] .nil) (.seq [(12, .grow), (7, .mut), (15, .mut), (16, .pure), (17, .pure)] .nil)))))) (.both (.seq [(12, .grow)] (.both (.seq [(7, .mut)] (.both (.seq [(10, .grow), (14, .grow), (15, .mut), (16, .pure), (17, .pure)] .nil) (.seq [(14, .grow), (10, .grow), (15, .mut), (16, .pure), (17, .pure)] .nil))) (.both (.seq [(10, .grow)] (.both (.seq [(7, .mut), (14, .grow), (15, .mut), (16, .pure), (17, .pure)] .nil) (.seq [(14, .grow), (7, .mut), (15, .mut), (16, .pure), (17, .pure)] .nil))) (.seq [(14, .grow)] (.both (.seq [(7, .mut), (10, .grow), (15, .mut), (16, .pure), (17, .pure)] .nil) (.seq [(10, .grow), (7, .mut), (15, .mut), (16, .pure), (17, .pure)] .nil)))))) (.seq [(14, .grow)] (.both (.seq [(7, .mut)] (.both (.seq [(10, .grow), (12, .grow), (15, .mut), (16, .pure), (17, .pure)] .nil) (.seq [(12, .grow), (10, .grow), (15, .mut), (16, .pure), (17, .pure)] .nil))) (.both (.seq [(10, .grow)] (.both (.seq [(7, .mut), (12, .grow), (15, .mut), (16, .pure), (17, .pure)] .nil) (.seq [(12, .grow), (7, .mut), (15, .mut), (16, .pure), (17, .pure)] .nil))) (.seq [(12, .grow)] (.both (.seq [(7, .mut), (10, .grow), (15, .mut), (16, .pure), (17, .pure)] .nil) (.seq [(10, .grow), (7, .mut), (15, .mut), (16, .pure), (17, .pure)] .nil)))))))))) [262014, 262137, 229241, 262119, 229223, 262047, 229151, 0, 229119, 260607, 0, 255999, 0, 237567, 0, 0, 32639, 65535] [0, 0, 2, 0, 8, 0, 32, 85, 0, 0, 512, 0, 2048, 0, 8192, 21888, 32896, 131071] [229504, 229508, 229504, 229520, 229504, 229568, 229504, 229376, 229376, 230400, 229376, 233472, 229376, 245760, 229376, 196608, 131072, 0] [.pure, .pure, .read, .pure, .read, .pure, .read, .mut, .pure, .pure, .grow, .pure, .grow, .pure, .grow, .mut, .pure, .pure] rfl (by kernel_rfl) (by kernel_rfl) ?_
      refine .tSeq (.mv rfl rfl (.fa rfl rfl (.ld rfl rfl rfl rfl (.fa rfl rfl (.ld rfl rfl rfl rfl (.fa rfl rfl (.ld rfl rfl rfl rfl (.mv rfl rfl (.fa rfl rfl (.fa rfl rfl (.fa rfl rfl (.done (.thenN ?_)))))))))))))
      refine .tBoth ?_ ?_
      ·
        refine .tSeq (.callM rfl rfl (node_walk hR hw) rfl rfl fun u19 h19 m19 hl19 hu19 => ?_)
        obtain ⟨e19, rfl, hR'⟩ := hu19
        have e19 := e19.symm
        subst e19
        have hW' := hW.mono hl19
        refine .done (.thenN ?_)
        refine .tBoth ?_ ?_
        ·
          refine .tSeq (.ld rfl rfl rfl rfl (.done (.thenN ?_)))
          refine .tBoth ?_ ?_
          ·
            refine .tSeq (.ld rfl rfl rfl rfl (.ld rfl rfl rfl rfl (?_)))
            refine .callM rfl rfl (rfnode_walk hW' hwf) rfl rfl fun u27 h27 m27 hl27 hu27 => ?_
            obtain ⟨rfl, hW2⟩ := hu27
            refine .cmp rfl rfl rfl rfl (.as_ rfl rfl (.done (.thenN ?_)))
            refine .tNil (.thenN ?_)
            exact J.mid (h27, m19, m27) ⟨hR'.mono hl27, hW2⟩ (.cons rfl (.nil _)) rfl rfl
          refine .tSeq (.ld rfl rfl rfl rfl (.ld rfl rfl rfl rfl (?_)))
          refine .callM rfl rfl (rfnode_walk hW' hwf) rfl rfl fun u27 h27 m27 hl27 hu27 => ?_
          obtain ⟨rfl, hW2⟩ := hu27
          refine .cmp rfl rfl rfl rfl (.as_ rfl rfl (.done (.thenN ?_)))
          refine .tNil (.thenN ?_)
          exact J.mid (h27, m19, m27) ⟨hR'.mono hl27, hW2⟩ (.cons rfl (.nil _)) rfl rfl
        refine .tBoth ?_ ?_
        ·
          refine .tSeq (.ld rfl rfl rfl rfl (.done (.thenN ?_)))
          refine .tBoth ?_ ?_
          ·
            refine .tSeq (.ld rfl rfl rfl rfl (.ld rfl rfl rfl rfl (?_)))
            refine .callM rfl rfl (rfnode_walk hW' hwf) rfl rfl fun u27 h27 m27 hl27 hu27 => ?_
            obtain ⟨rfl, hW2⟩ := hu27
            refine .cmp rfl rfl rfl rfl (.as_ rfl rfl (.done (.thenN ?_)))
            refine .tNil (.thenN ?_)
            exact J.mid (h27, m19, m27) ⟨hR'.mono hl27, hW2⟩ (.cons rfl (.nil _)) rfl rfl
          refine .tSeq (.ld rfl rfl rfl rfl (.ld rfl rfl rfl rfl (?_)))
          refine .callM rfl rfl (rfnode_walk hW' hwf) rfl rfl fun u27 h27 m27 hl27 hu27 => ?_
          obtain ⟨rfl, hW2⟩ := hu27
          refine .cmp rfl rfl rfl rfl (.as_ rfl rfl (.done (.thenN ?_)))
          refine .tNil (.thenN ?_)
          exact J.mid (h27, m19, m27) ⟨hR'.mono hl27, hW2⟩ (.cons rfl (.nil _)) rfl rfl
        refine .tSeq (.ld rfl rfl rfl rfl (.done (.thenN ?_)))
        refine .tBoth ?_ ?_
        ·
          refine .tSeq (.ld rfl rfl rfl rfl (.ld rfl rfl rfl rfl (?_)))
          refine .callM rfl rfl (rfnode_walk hW' hwf) rfl rfl fun u27 h27 m27 hl27 hu27 => ?_
          obtain ⟨rfl, hW2⟩ := hu27
          refine .cmp rfl rfl rfl rfl (.as_ rfl rfl (.done (.thenN ?_)))
          refine .tNil (.thenN ?_)
          exact J.mid (h27, m19, m27) ⟨hR'.mono hl27, hW2⟩ (.cons rfl (.nil _)) rfl rfl
        refine .tSeq (.ld rfl rfl rfl rfl (.ld rfl rfl rfl rfl (?_)))
        refine .callM rfl rfl (rfnode_walk hW' hwf) rfl rfl fun u27 h27 m27 hl27 hu27 => ?_
        obtain ⟨rfl, hW2⟩ := hu27
        refine .cmp rfl rfl rfl rfl (.as_ rfl rfl (.done (.thenN ?_)))
        refine .tNil (.thenN ?_)
        exact J.mid (h27, m19, m27) ⟨hR'.mono hl27, hW2⟩ (.cons rfl (.nil _)) rfl rfl
      refine .tBoth ?_ ?_
      ·
        refine .tSeq (.ld rfl rfl rfl rfl (.done (.thenN ?_)))
        refine .tBoth ?_ ?_
        ·
          refine .tSeq (.callM rfl rfl (node_walk hR hw) rfl rfl fun u19 h19 m19 hl19 hu19 => ?_)
          obtain ⟨e19, rfl, hR'⟩ := hu19
          have e19 := e19.symm
          subst e19
          have hW' := hW.mono hl19
          refine .done (.thenN ?_)
          refine .tBoth ?_ ?_
          ·
            refine .tSeq (.ld rfl rfl rfl rfl (.ld rfl rfl rfl rfl (?_)))
            refine .callM rfl rfl (rfnode_walk hW' hwf) rfl rfl fun u27 h27 m27 hl27 hu27 => ?_
            obtain ⟨rfl, hW2⟩ := hu27
            refine .cmp rfl rfl rfl rfl (.as_ rfl rfl (.done (.thenN ?_)))
            refine .tNil (.thenN ?_)
            exact J.mid (h27, m19, m27) ⟨hR'.mono hl27, hW2⟩ (.cons rfl (.nil _)) rfl rfl
          refine .tSeq (.ld rfl rfl rfl rfl (.ld rfl rfl rfl rfl (?_)))
          refine .callM rfl rfl (rfnode_walk hW' hwf) rfl rfl fun u27 h27 m27 hl27 hu27 => ?_
          obtain ⟨rfl, hW2⟩ := hu27
          refine .cmp rfl rfl rfl rfl (.as_ rfl rfl (.done (.thenN ?_)))
          refine .tNil (.thenN ?_)
          exact J.mid (h27, m19, m27) ⟨hR'.mono hl27, hW2⟩ (.cons rfl (.nil _)) rfl rfl
        refine .tBoth ?_ ?_
        ·
          refine .tSeq (.ld rfl rfl rfl rfl (.done (.thenN ?_)))
          refine .tBoth ?_ ?_
          ·
            refine .tSeq (.callM rfl rfl (node_walk hR hw) rfl rfl fun u19 h19 m19 hl19 hu19 => ?_)
            obtain ⟨e19, rfl, hR'⟩ := hu19
            have e19 := e19.symm
            subst e19
            have hW' := hW.mono hl19
            refine .ld rfl rfl rfl rfl (?_)
            refine .callM rfl rfl (rfnode_walk hW' hwf) rfl rfl fun u27 h27 m27 hl27 hu27 => ?_
            obtain ⟨rfl, hW2⟩ := hu27
            refine .cmp rfl rfl rfl rfl (.as_ rfl rfl (.done (.thenN ?_)))
            refine .tNil (.thenN ?_)
            exact J.mid (h27, m19, m27) ⟨hR'.mono hl27, hW2⟩ (.cons rfl (.nil _)) rfl rfl
          refine .tSeq (.ld rfl rfl rfl rfl (?_))
          refine .callM rfl rfl (node_walk hR hw) rfl rfl fun u19 h19 m19 hl19 hu19 => ?_
          obtain ⟨e19, rfl, hR'⟩ := hu19
          have e19 := e19.symm
          subst e19
          have hW' := hW.mono hl19
          refine ?_
          refine .callM rfl rfl (rfnode_walk hW' hwf) rfl rfl fun u27 h27 m27 hl27 hu27 => ?_
          obtain ⟨rfl, hW2⟩ := hu27
          refine .cmp rfl rfl rfl rfl (.as_ rfl rfl (.done (.thenN ?_)))
          refine .tNil (.thenN ?_)
          exact J.mid (h27, m19, m27) ⟨hR'.mono hl27, hW2⟩ (.cons rfl (.nil _)) rfl rfl
        refine .tSeq (.ld rfl rfl rfl rfl (.done (.thenN ?_)))
        refine .tBoth ?_ ?_
        ·
          refine .tSeq (.callM rfl rfl (node_walk hR hw) rfl rfl fun u19 h19 m19 hl19 hu19 => ?_)
          obtain ⟨e19, rfl, hR'⟩ := hu19
          have e19 := e19.symm
          subst e19
          have hW' := hW.mono hl19
          refine .ld rfl rfl rfl rfl (?_)
          refine .callM rfl rfl (rfnode_walk hW' hwf) rfl rfl fun u27 h27 m27 hl27 hu27 => ?_
          obtain ⟨rfl, hW2⟩ := hu27
          refine .cmp rfl rfl rfl rfl (.as_ rfl rfl (.done (.thenN ?_)))
          refine .tNil (.thenN ?_)
          exact J.mid (h27, m19, m27) ⟨hR'.mono hl27, hW2⟩ (.cons rfl (.nil _)) rfl rfl
        refine .tSeq (.ld rfl rfl rfl rfl (?_))
        refine .callM rfl rfl (node_walk hR hw) rfl rfl fun u19 h19 m19 hl19 hu19 => ?_
        obtain ⟨e19, rfl, hR'⟩ := hu19
        have e19 := e19.symm
        subst e19
        have hW' := hW.mono hl19
        refine ?_
        refine .callM rfl rfl (rfnode_walk hW' hwf) rfl rfl fun u27 h27 m27 hl27 hu27 => ?_
        obtain ⟨rfl, hW2⟩ := hu27
        refine .cmp rfl rfl rfl rfl (.as_ rfl rfl (.done (.thenN ?_)))
        refine .tNil (.thenN ?_)
        exact J.mid (h27, m19, m27) ⟨hR'.mono hl27, hW2⟩ (.cons rfl (.nil _)) rfl rfl
      refine .tBoth ?_ ?_
      ·
        refine .tSeq (.ld rfl rfl rfl rfl (.done (.thenN ?_)))
        refine .tBoth ?_ ?_
        ·
          refine .tSeq (.callM rfl rfl (node_walk hR hw) rfl rfl fun u19 h19 m19 hl19 hu19 => ?_)
          obtain ⟨e19, rfl, hR'⟩ := hu19
          have e19 := e19.symm
          subst e19
          have hW' := hW.mono hl19
          refine .done (.thenN ?_)
          refine .tBoth ?_ ?_
          ·
            refine .tSeq (.ld rfl rfl rfl rfl (.ld rfl rfl rfl rfl (?_)))
            refine .callM rfl rfl (rfnode_walk hW' hwf) rfl rfl fun u27 h27 m27 hl27 hu27 => ?_
            obtain ⟨rfl, hW2⟩ := hu27
            refine .cmp rfl rfl rfl rfl (.as_ rfl rfl (.done (.thenN ?_)))
            refine .tNil (.thenN ?_)
            exact J.mid (h27, m19, m27) ⟨hR'.mono hl27, hW2⟩ (.cons rfl (.nil _)) rfl rfl
          refine .tSeq (.ld rfl rfl rfl rfl (.ld rfl rfl rfl rfl (?_)))
          refine .callM rfl rfl (rfnode_walk hW' hwf) rfl rfl fun u27 h27 m27 hl27 hu27 => ?_
          obtain ⟨rfl, hW2⟩ := hu27
          refine .cmp rfl rfl rfl rfl (.as_ rfl rfl (.done (.thenN ?_)))
          refine .tNil (.thenN ?_)
          exact J.mid (h27, m19, m27) ⟨hR'.mono hl27, hW2⟩ (.cons rfl (.nil _)) rfl rfl
        refine .tBoth ?_ ?_
        ·
          refine .tSeq (.ld rfl rfl rfl rfl (.done (.thenN ?_)))
          refine .tBoth ?_ ?_
          ·
            refine .tSeq (.callM rfl rfl (node_walk hR hw) rfl rfl fun u19 h19 m19 hl19 hu19 => ?_)
            obtain ⟨e19, rfl, hR'⟩ := hu19
            have e19 := e19.symm
            subst e19
            have hW' := hW.mono hl19
            refine .ld rfl rfl rfl rfl (?_)
            refine .callM rfl rfl (rfnode_walk hW' hwf) rfl rfl fun u27 h27 m27 hl27 hu27 => ?_
            obtain ⟨rfl, hW2⟩ := hu27
            refine .cmp rfl rfl rfl rfl (.as_ rfl rfl (.done (.thenN ?_)))
            refine .tNil (.thenN ?_)
            exact J.mid (h27, m19, m27) ⟨hR'.mono hl27, hW2⟩ (.cons rfl (.nil _)) rfl rfl
          refine .tSeq (.ld rfl rfl rfl rfl (?_))
          refine .callM rfl rfl (node_walk hR hw) rfl rfl fun u19 h19 m19 hl19 hu19 => ?_
          obtain ⟨e19, rfl, hR'⟩ := hu19
          have e19 := e19.symm
          subst e19
          have hW' := hW.mono hl19
          refine ?_
          refine .callM rfl rfl (rfnode_walk hW' hwf) rfl rfl fun u27 h27 m27 hl27 hu27 => ?_
          obtain ⟨rfl, hW2⟩ := hu27
          refine .cmp rfl rfl rfl rfl (.as_ rfl rfl (.done (.thenN ?_)))
          refine .tNil (.thenN ?_)
          exact J.mid (h27, m19, m27) ⟨hR'.mono hl27, hW2⟩ (.cons rfl (.nil _)) rfl rfl
        refine .tSeq (.ld rfl rfl rfl rfl (.done (.thenN ?_)))
        refine .tBoth ?_ ?_
        ·
          refine .tSeq (.callM rfl rfl (node_walk hR hw) rfl rfl fun u19 h19 m19 hl19 hu19 => ?_)
          obtain ⟨e19, rfl, hR'⟩ := hu19
          have e19 := e19.symm
          subst e19
          have hW' := hW.mono hl19
          refine .ld rfl rfl rfl rfl (?_)
          refine .callM rfl rfl (rfnode_walk hW' hwf) rfl rfl fun u27 h27 m27 hl27 hu27 => ?_
          obtain ⟨rfl, hW2⟩ := hu27
          refine .cmp rfl rfl rfl rfl (.as_ rfl rfl (.done (.thenN ?_)))
          refine .tNil (.thenN ?_)
          exact J.mid (h27, m19, m27) ⟨hR'.mono hl27, hW2⟩ (.cons rfl (.nil _)) rfl rfl
        refine .tSeq (.ld rfl rfl rfl rfl (?_))
        refine .callM rfl rfl (node_walk hR hw) rfl rfl fun u19 h19 m19 hl19 hu19 => ?_
        obtain ⟨e19, rfl, hR'⟩ := hu19
        have e19 := e19.symm
        subst e19
        have hW' := hW.mono hl19
        refine ?_
        refine .callM rfl rfl (rfnode_walk hW' hwf) rfl rfl fun u27 h27 m27 hl27 hu27 => ?_
        obtain ⟨rfl, hW2⟩ := hu27
        refine .cmp rfl rfl rfl rfl (.as_ rfl rfl (.done (.thenN ?_)))
        refine .tNil (.thenN ?_)
        exact J.mid (h27, m19, m27) ⟨hR'.mono hl27, hW2⟩ (.cons rfl (.nil _)) rfl rfl
      refine .tSeq (.ld rfl rfl rfl rfl (.done (.thenN ?_)))
      refine .tBoth ?_ ?_
      ·
        refine .tSeq (.callM rfl rfl (node_walk hR hw) rfl rfl fun u19 h19 m19 hl19 hu19 => ?_)
        obtain ⟨e19, rfl, hR'⟩ := hu19
        have e19 := e19.symm
        subst e19
        have hW' := hW.mono hl19
        refine .done (.thenN ?_)
        refine .tBoth ?_ ?_
        ·
          refine .tSeq (.ld rfl rfl rfl rfl (.ld rfl rfl rfl rfl (?_)))
          refine .callM rfl rfl (rfnode_walk hW' hwf) rfl rfl fun u27 h27 m27 hl27 hu27 => ?_
          obtain ⟨rfl, hW2⟩ := hu27
          refine .cmp rfl rfl rfl rfl (.as_ rfl rfl (.done (.thenN ?_)))
          refine .tNil (.thenN ?_)
          exact J.mid (h27, m19, m27) ⟨hR'.mono hl27, hW2⟩ (.cons rfl (.nil _)) rfl rfl
        refine .tSeq (.ld rfl rfl rfl rfl (.ld rfl rfl rfl rfl (?_)))
        refine .callM rfl rfl (rfnode_walk hW' hwf) rfl rfl fun u27 h27 m27 hl27 hu27 => ?_
        obtain ⟨rfl, hW2⟩ := hu27
        refine .cmp rfl rfl rfl rfl (.as_ rfl rfl (.done (.thenN ?_)))
        refine .tNil (.thenN ?_)
        exact J.mid (h27, m19, m27) ⟨hR'.mono hl27, hW2⟩ (.cons rfl (.nil _)) rfl rfl
      refine .tBoth ?_ ?_
      ·
        refine .tSeq (.ld rfl rfl rfl rfl (.done (.thenN ?_)))
        refine .tBoth ?_ ?_
        ·
          refine .tSeq (.callM rfl rfl (node_walk hR hw) rfl rfl fun u19 h19 m19 hl19 hu19 => ?_)
          obtain ⟨e19, rfl, hR'⟩ := hu19
          have e19 := e19.symm
          subst e19
          have hW' := hW.mono hl19
          refine .ld rfl rfl rfl rfl (?_)
          refine .callM rfl rfl (rfnode_walk hW' hwf) rfl rfl fun u27 h27 m27 hl27 hu27 => ?_
          obtain ⟨rfl, hW2⟩ := hu27
          refine .cmp rfl rfl rfl rfl (.as_ rfl rfl (.done (.thenN ?_)))
          refine .tNil (.thenN ?_)
          exact J.mid (h27, m19, m27) ⟨hR'.mono hl27, hW2⟩ (.cons rfl (.nil _)) rfl rfl
        refine .tSeq (.ld rfl rfl rfl rfl (?_))
        refine .callM rfl rfl (node_walk hR hw) rfl rfl fun u19 h19 m19 hl19 hu19 => ?_
        obtain ⟨e19, rfl, hR'⟩ := hu19
        have e19 := e19.symm
        subst e19
        have hW' := hW.mono hl19
        refine ?_
        refine .callM rfl rfl (rfnode_walk hW' hwf) rfl rfl fun u27 h27 m27 hl27 hu27 => ?_
        obtain ⟨rfl, hW2⟩ := hu27
        refine .cmp rfl rfl rfl rfl (.as_ rfl rfl (.done (.thenN ?_)))
        refine .tNil (.thenN ?_)
        exact J.mid (h27, m19, m27) ⟨hR'.mono hl27, hW2⟩ (.cons rfl (.nil _)) rfl rfl
      refine .tSeq (.ld rfl rfl rfl rfl (.done (.thenN ?_)))
      refine .tBoth ?_ ?_
      ·
        refine .tSeq (.callM rfl rfl (node_walk hR hw) rfl rfl fun u19 h19 m19 hl19 hu19 => ?_)
        obtain ⟨e19, rfl, hR'⟩ := hu19
        have e19 := e19.symm
        subst e19
        have hW' := hW.mono hl19
        refine .ld rfl rfl rfl rfl (?_)
        refine .callM rfl rfl (rfnode_walk hW' hwf) rfl rfl fun u27 h27 m27 hl27 hu27 => ?_
        obtain ⟨rfl, hW2⟩ := hu27
        refine .cmp rfl rfl rfl rfl (.as_ rfl rfl (.done (.thenN ?_)))
        refine .tNil (.thenN ?_)
        exact J.mid (h27, m19, m27) ⟨hR'.mono hl27, hW2⟩ (.cons rfl (.nil _)) rfl rfl
      refine .tSeq (.ld rfl rfl rfl rfl (?_))
      refine .callM rfl rfl (node_walk hR hw) rfl rfl fun u19 h19 m19 hl19 hu19 => ?_
      obtain ⟨e19, rfl, hR'⟩ := hu19
      have e19 := e19.symm
      subst e19
      have hW' := hW.mono hl19
      refine ?_
      refine .callM rfl rfl (rfnode_walk hW' hwf) rfl rfl fun u27 h27 m27 hl27 hu27 => ?_
      obtain ⟨rfl, hW2⟩ := hu27
      refine .cmp rfl rfl rfl rfl (.as_ rfl rfl (.done (.thenN ?_)))
      refine .tNil (.thenN ?_)
      exact J.mid (h27, m19, m27) ⟨hR'.mono hl27, hW2⟩ (.cons rfl (.nil _)) rfl rfl
    ·
      rintro ⟨h9, m9, mw9⟩ ⟨hR', hW2⟩
      refine .ret (.blkR (.thenR ?_))
      exact J.retTmp rfl (List.Sublist.refl _) ⟨_, _, rfl, by rw [stepB, if_pos hb2]; rfl, by rw [stepR, if_pos hb2]; exact hR', by rw [stepW, if_pos hb2]; exact hW2⟩
  ·
    refine .seq (.text (.cmp rfl rfl rfl rfl (.as_ rfl rfl (.done (.thenN ?_)))))
    refine .cond rfl (fun hb4 => ?_) (fun hb4 => ?_)
    ·
      refine J.cut (ι := Hp × Hp × Hp) (fun i => Ro i.2.1 i.1 rp (dropNodeR R s.node s.ix) ∧ Rb i.2.2 i.1 wb (rfDropNW W s.node s.ix)) (fun i => [(6, .bool (decide (dropNodeE R s.node = rfDropNE W s.node)))]) (fun i => i.1) (fun i => [i.2.1, i.2.2]) ?_ ?_
      ·
        refine .tree2 (.seq [(0, .pure), (1, .pure), (2, .read), (3, .pure), (4, .read), (6, .pure), (7, .pure), (9, .pure)] (.both (.seq [(5, .mut)] (.both (.seq [(8, .grow), (10, .grow), (11, .mut), (12, .pure), (13, .pure)] .nil) (.seq [(10, .grow), (8, .grow), (11, .mut), (12, .pure), (13, .pure)] .nil))) (.both (.seq [(8, .grow)] (.both (.seq [(5, .mut), (10, .grow), (11, .mut), (12, .pure), (13, .pure)] .nil) (.seq [(10, .grow), (5, .mut), (11, .mut), (12, .pure), (13, .pure)] .nil))) (.seq [(10, .grow)] (.both (.seq [(5, .mut), (8, .grow), (11, .mut), (12, .pure), (13, .pure)] .nil) (.seq [(8, .grow), (5, .mut), (11, .mut), (12, .pure), (13, .pure)] .nil)))))) [16350, 16377, 14297, 16359, 14279, 0, 14271, 15999, 0, 14847, 0, 0, 2015, 4095] [0, 0, 2, 0, 8, 21, 0, 0, 128, 0, 512, 1376, 2080, 8191] [14368, 14372, 14368, 14384, 14368, 14336, 14336, 14592, 14336, 15360, 14336, 12288, 8192, 0] [.pure, .pure, .read, .pure, .read, .mut, .pure, .pure, .grow, .pure, .grow, .mut, .pure, .pure] rfl (by kernel_rfl) (by kernel_rfl) ?_
        refine .tSeq (.mv rfl rfl (.fa rfl rfl (.ld rfl rfl rfl rfl (.fa rfl rfl (.ld rfl rfl rfl rfl (.mv rfl rfl (.fa rfl rfl (.fa rfl rfl (.done (.thenN ?_))))))))))
        refine .tBoth ?_ ?_
        ·
          refine .tSeq (.callM rfl rfl (dropNode_walk hR hw) rfl rfl fun u36 h36 m36 hl36 hu36 => ?_)
          obtain ⟨rfl, hR'⟩ := hu36
          have hB := hl36 _ _ hB
          haveI : ∀ L, At h36 L b5 (.cells ⟨stpV s tv⟩ 35 (0, 0)) := fun L => At.ofH hB
          have hW' := hW.mono hl36
          refine .done (.thenN ?_)
          refine .tBoth ?_ ?_
          ·
            refine .tSeq (.ld rfl rfl rfl rfl (.ld rfl rfl rfl rfl (?_)))
            refine .callM rfl rfl (rfdropnode_walk hW') rfl rfl fun u42 h42 m42 hl42 hu42 => ?_
            obtain ⟨rfl, hW2⟩ := hu42
            refine .cmp rfl rfl rfl rfl (.as_ rfl rfl (.done (.thenN ?_)))
            refine .tNil (.thenN ?_)
            exact J.mid (h42, m36, m42) ⟨hR'.mono hl42, hW2⟩ (.cons rfl (.nil _)) rfl rfl
          refine .tSeq (.ld rfl rfl rfl rfl (.ld rfl rfl rfl rfl (?_)))
          refine .callM rfl rfl (rfdropnode_walk hW') rfl rfl fun u42 h42 m42 hl42 hu42 => ?_
          obtain ⟨rfl, hW2⟩ := hu42
          refine .cmp rfl rfl rfl rfl (.as_ rfl rfl (.done (.thenN ?_)))
          refine .tNil (.thenN ?_)
          exact J.mid (h42, m36, m42) ⟨hR'.mono hl42, hW2⟩ (.cons rfl (.nil _)) rfl rfl
        refine .tBoth ?_ ?_
        ·
          refine .tSeq (.ld rfl rfl rfl rfl (.done (.thenN ?_)))
          refine .tBoth ?_ ?_
          ·
            refine .tSeq (.callM rfl rfl (dropNode_walk hR hw) rfl rfl fun u36 h36 m36 hl36 hu36 => ?_)
            obtain ⟨rfl, hR'⟩ := hu36
            have hB := hl36 _ _ hB
            haveI : ∀ L, At h36 L b5 (.cells ⟨stpV s tv⟩ 35 (0, 0)) := fun L => At.ofH hB
            have hW' := hW.mono hl36
            refine .ld rfl rfl rfl rfl (?_)
            refine .callM rfl rfl (rfdropnode_walk hW') rfl rfl fun u42 h42 m42 hl42 hu42 => ?_
            obtain ⟨rfl, hW2⟩ := hu42
            refine .cmp rfl rfl rfl rfl (.as_ rfl rfl (.done (.thenN ?_)))
            refine .tNil (.thenN ?_)
            exact J.mid (h42, m36, m42) ⟨hR'.mono hl42, hW2⟩ (.cons rfl (.nil _)) rfl rfl
          refine .tSeq (.ld rfl rfl rfl rfl (?_))
          refine .callM rfl rfl (dropNode_walk hR hw) rfl rfl fun u36 h36 m36 hl36 hu36 => ?_
          obtain ⟨rfl, hR'⟩ := hu36
          have hB := hl36 _ _ hB
          haveI : ∀ L, At h36 L b5 (.cells ⟨stpV s tv⟩ 35 (0, 0)) := fun L => At.ofH hB
          have hW' := hW.mono hl36
          refine ?_
          refine .callM rfl rfl (rfdropnode_walk hW') rfl rfl fun u42 h42 m42 hl42 hu42 => ?_
          obtain ⟨rfl, hW2⟩ := hu42
          refine .cmp rfl rfl rfl rfl (.as_ rfl rfl (.done (.thenN ?_)))
          refine .tNil (.thenN ?_)
          exact J.mid (h42, m36, m42) ⟨hR'.mono hl42, hW2⟩ (.cons rfl (.nil _)) rfl rfl
        refine .tSeq (.ld rfl rfl rfl rfl (.done (.thenN ?_)))
        refine .tBoth ?_ ?_
        ·
          refine .tSeq (.callM rfl rfl (dropNode_walk hR hw) rfl rfl fun u36 h36 m36 hl36 hu36 => ?_)
          obtain ⟨rfl, hR'⟩ := hu36
          have hB := hl36 _ _ hB
          haveI : ∀ L, At h36 L b5 (.cells ⟨stpV s tv⟩ 35 (0, 0)) := fun L => At.ofH hB
          have hW' := hW.mono hl36
          refine .ld rfl rfl rfl rfl (?_)
          refine .callM rfl rfl (rfdropnode_walk hW') rfl rfl fun u42 h42 m42 hl42 hu42 => ?_
          obtain ⟨rfl, hW2⟩ := hu42
          refine .cmp rfl rfl rfl rfl (.as_ rfl rfl (.done (.thenN ?_)))
          refine .tNil (.thenN ?_)
          exact J.mid (h42, m36, m42) ⟨hR'.mono hl42, hW2⟩ (.cons rfl (.nil _)) rfl rfl
        refine .tSeq (.ld rfl rfl rfl rfl (?_))
        refine .callM rfl rfl (dropNode_walk hR hw) rfl rfl fun u36 h36 m36 hl36 hu36 => ?_
        obtain ⟨rfl, hR'⟩ := hu36
        have hB := hl36 _ _ hB
        haveI : ∀ L, At h36 L b5 (.cells ⟨stpV s tv⟩ 35 (0, 0)) := fun L => At.ofH hB
        have hW' := hW.mono hl36
        refine ?_
        refine .callM rfl rfl (rfdropnode_walk hW') rfl rfl fun u42 h42 m42 hl42 hu42 => ?_
        obtain ⟨rfl, hW2⟩ := hu42
        refine .cmp rfl rfl rfl rfl (.as_ rfl rfl (.done (.thenN ?_)))
        refine .tNil (.thenN ?_)
        exact J.mid (h42, m36, m42) ⟨hR'.mono hl42, hW2⟩ (.cons rfl (.nil _)) rfl rfl
      ·
        rintro ⟨h9, m9, mw9⟩ ⟨hR', hW2⟩
        refine .ret (.blkR (.thenR ?_))
        exact J.retTmp rfl (List.Sublist.refl _) ⟨_, _, rfl, by rw [stepB, if_neg (ifn hb2), if_pos hb4]; rfl, by rw [stepR, if_neg (ifn hb2), if_pos hb4]; exact hR', by rw [stepW, if_neg (ifn hb2), if_pos hb4]; exact hW2⟩
    ·
      refine .seq (.text (.cmp rfl rfl rfl rfl (.as_ rfl rfl (.done (.thenN ?_)))))
      refine .cond rfl (fun hb6 => ?_) (fun hb6 => ?_)
      ·
        refine J.cut (ι := Hp × Hp × Hp) (fun i => Ro i.2.1 i.1 rp (svcR R s.s s.ix) ∧ Rb i.2.2 i.1 wb (rfSvcW W s.s s.ix)) (fun i => [(6, .bool (decide (svcE R s.s = rfSvcE W s.s)))]) (fun i => i.1) (fun i => [i.2.1, i.2.2]) ?_ ?_
        ·
          refine .tree2 (.seq [(0, .pure), (1, .pure), (2, .read), (3, .pure), (4, .read), (6, .pure), (7, .pure), (9, .pure)] (.both (.seq [(5, .mut)] (.both (.seq [(8, .grow), (10, .grow), (11, .mut), (12, .pure), (13, .pure)] .nil) (.seq [(10, .grow), (8, .grow), (11, .mut), (12, .pure), (13, .pure)] .nil))) (.both (.seq [(8, .grow)] (.both (.seq [(5, .mut), (10, .grow), (11, .mut), (12, .pure), (13, .pure)] .nil) (.seq [(10, .grow), (5, .mut), (11, .mut), (12, .pure), (13, .pure)] .nil))) (.seq [(10, .grow)] (.both (.seq [(5, .mut), (8, .grow), (11, .mut), (12, .pure), (13, .pure)] .nil) (.seq [(8, .grow), (5, .mut), (11, .mut), (12, .pure), (13, .pure)] .nil)))))) [16350, 16377, 14297, 16359, 14279, 0, 14271, 15999, 0, 14847, 0, 0, 2015, 4095] [0, 0, 2, 0, 8, 21, 0, 0, 128, 0, 512, 1376, 2080, 8191] [14368, 14372, 14368, 14384, 14368, 14336, 14336, 14592, 14336, 15360, 14336, 12288, 8192, 0] [.pure, .pure, .read, .pure, .read, .mut, .pure, .pure, .grow, .pure, .grow, .mut, .pure, .pure] rfl (by kernel_rfl) (by kernel_rfl) ?_
          refine .tSeq (.mv rfl rfl (.fa rfl rfl (.ldA (svcV s.s tv) rfl rfl rfl rfl rfl (.fa rfl rfl (.ld rfl rfl rfl rfl (.mv rfl rfl (.fa rfl rfl (.fa rfl rfl (.done (.thenN ?_))))))))))
          refine .tBoth ?_ ?_
          ·
            refine .tSeq (.callM rfl rfl (service_walk hR hw htv hsm.ss) rfl rfl fun u51 h51 m51 hl51 hu51 => ?_)
            obtain ⟨rfl, hR'⟩ := hu51
            have hB := hl51 _ _ hB
            haveI : ∀ L, At h51 L b5 (.cells ⟨stpV s tv⟩ 35 (0, 0)) := fun L => At.ofH hB
            have hW' := hW.mono hl51
            refine .done (.thenN ?_)
            refine .tBoth ?_ ?_
            ·
              refine .tSeq (.ldA (svcV s.s tv) rfl rfl rfl rfl rfl (.ld rfl rfl rfl rfl (?_)))
              refine .callM rfl rfl (rfsvc_walk hW' hwf (htv.mono RS.mono hl51)) rfl rfl fun u57 h57 m57 hl57 hu57 => ?_
              obtain ⟨rfl, hW2⟩ := hu57
              refine .cmp rfl rfl rfl rfl (.as_ rfl rfl (.done (.thenN ?_)))
              refine .tNil (.thenN ?_)
              exact J.mid (h57, m51, m57) ⟨hR'.mono hl57, hW2⟩ (.cons rfl (.nil _)) rfl rfl
            refine .tSeq (.ld rfl rfl rfl rfl (.ldA (svcV s.s tv) rfl rfl rfl rfl rfl (?_)))
            refine .callM rfl rfl (rfsvc_walk hW' hwf (htv.mono RS.mono hl51)) rfl rfl fun u57 h57 m57 hl57 hu57 => ?_
            obtain ⟨rfl, hW2⟩ := hu57
            refine .cmp rfl rfl rfl rfl (.as_ rfl rfl (.done (.thenN ?_)))
            refine .tNil (.thenN ?_)
            exact J.mid (h57, m51, m57) ⟨hR'.mono hl57, hW2⟩ (.cons rfl (.nil _)) rfl rfl
          refine .tBoth ?_ ?_
          ·
            refine .tSeq (.ldA (svcV s.s tv) rfl rfl rfl rfl rfl (.done (.thenN ?_)))
            refine .tBoth ?_ ?_
            ·
              refine .tSeq (.callM rfl rfl (service_walk hR hw htv hsm.ss) rfl rfl fun u51 h51 m51 hl51 hu51 => ?_)
              obtain ⟨rfl, hR'⟩ := hu51
              have hB := hl51 _ _ hB
              haveI : ∀ L, At h51 L b5 (.cells ⟨stpV s tv⟩ 35 (0, 0)) := fun L => At.ofH hB
              have hW' := hW.mono hl51
              refine .ld rfl rfl rfl rfl (?_)
              refine .callM rfl rfl (rfsvc_walk hW' hwf (htv.mono RS.mono hl51)) rfl rfl fun u57 h57 m57 hl57 hu57 => ?_
              obtain ⟨rfl, hW2⟩ := hu57
              refine .cmp rfl rfl rfl rfl (.as_ rfl rfl (.done (.thenN ?_)))
              refine .tNil (.thenN ?_)
              exact J.mid (h57, m51, m57) ⟨hR'.mono hl57, hW2⟩ (.cons rfl (.nil _)) rfl rfl
            refine .tSeq (.ld rfl rfl rfl rfl (?_))
            refine .callM rfl rfl (service_walk hR hw htv hsm.ss) rfl rfl fun u51 h51 m51 hl51 hu51 => ?_
            obtain ⟨rfl, hR'⟩ := hu51
            have hB := hl51 _ _ hB
            haveI : ∀ L, At h51 L b5 (.cells ⟨stpV s tv⟩ 35 (0, 0)) := fun L => At.ofH hB
            have hW' := hW.mono hl51
            refine ?_
            refine .callM rfl rfl (rfsvc_walk hW' hwf (htv.mono RS.mono hl51)) rfl rfl fun u57 h57 m57 hl57 hu57 => ?_
            obtain ⟨rfl, hW2⟩ := hu57
            refine .cmp rfl rfl rfl rfl (.as_ rfl rfl (.done (.thenN ?_)))
            refine .tNil (.thenN ?_)
            exact J.mid (h57, m51, m57) ⟨hR'.mono hl57, hW2⟩ (.cons rfl (.nil _)) rfl rfl
          refine .tSeq (.ld rfl rfl rfl rfl (.done (.thenN ?_)))
          refine .tBoth ?_ ?_
          ·
            refine .tSeq (.callM rfl rfl (service_walk hR hw htv hsm.ss) rfl rfl fun u51 h51 m51 hl51 hu51 => ?_)
            obtain ⟨rfl, hR'⟩ := hu51
            have hB := hl51 _ _ hB
            haveI : ∀ L, At h51 L b5 (.cells ⟨stpV s tv⟩ 35 (0, 0)) := fun L => At.ofH hB
            have hW' := hW.mono hl51
            refine .ldA (svcV s.s tv) rfl rfl rfl rfl rfl (?_)
            refine .callM rfl rfl (rfsvc_walk hW' hwf (htv.mono RS.mono hl51)) rfl rfl fun u57 h57 m57 hl57 hu57 => ?_
            obtain ⟨rfl, hW2⟩ := hu57
            refine .cmp rfl rfl rfl rfl (.as_ rfl rfl (.done (.thenN ?_)))
            refine .tNil (.thenN ?_)
            exact J.mid (h57, m51, m57) ⟨hR'.mono hl57, hW2⟩ (.cons rfl (.nil _)) rfl rfl
          refine .tSeq (.ldA (svcV s.s tv) rfl rfl rfl rfl rfl (?_))
          refine .callM rfl rfl (service_walk hR hw htv hsm.ss) rfl rfl fun u51 h51 m51 hl51 hu51 => ?_
          obtain ⟨rfl, hR'⟩ := hu51
          have hB := hl51 _ _ hB
          haveI : ∀ L, At h51 L b5 (.cells ⟨stpV s tv⟩ 35 (0, 0)) := fun L => At.ofH hB
          have hW' := hW.mono hl51
          refine ?_
          refine .callM rfl rfl (rfsvc_walk hW' hwf (htv.mono RS.mono hl51)) rfl rfl fun u57 h57 m57 hl57 hu57 => ?_
          obtain ⟨rfl, hW2⟩ := hu57
          refine .cmp rfl rfl rfl rfl (.as_ rfl rfl (.done (.thenN ?_)))
          refine .tNil (.thenN ?_)
          exact J.mid (h57, m51, m57) ⟨hR'.mono hl57, hW2⟩ (.cons rfl (.nil _)) rfl rfl
        ·
          rintro ⟨h9, m9, mw9⟩ ⟨hR', hW2⟩
          refine .ret (.blkR (.thenR ?_))
          exact J.retTmp rfl (List.Sublist.refl _) ⟨_, _, rfl, by rw [stepB, if_neg (ifn hb2), if_neg (ifn hb4), if_pos hb6]; rfl, by rw [stepR, if_neg (ifn hb2), if_neg (ifn hb4), if_pos hb6]; exact hR', by rw [stepW, if_neg (ifn hb2), if_neg (ifn hb4), if_pos hb6]; exact hW2⟩
      ·
        refine .seq (.text (.cmp rfl rfl rfl rfl (.as_ rfl rfl (.done (.thenN ?_)))))
        refine .cond rfl (fun hb8 => ?_) (fun hb8 => ?_)
        ·
          refine J.cut (ι := Hp × Hp × Hp) (fun i => Ro i.2.1 i.1 rp (dropSvcR R s.node s.text s.ix) ∧ Rb i.2.2 i.1 wb (rfDropSW W s.node s.text s.ix)) (fun i => [(6, .bool (decide (dropSvcE R s.node s.text = rfDropSE W s.node s.text)))]) (fun i => i.1) (fun i => [i.2.1, i.2.2]) ?_ ?_
          ·
            refine .tree2 (.seq [(0, .pure), (1, .pure), (2, .read), (3, .pure), (4, .read), (5, .pure), (6, .read), (8, .pure), (9, .pure), (11, .pure), (13, .pure)] (.both (.seq [(7, .mut)] (.both (.seq [(10, .grow)] (.both (.seq [(12, .grow), (14, .grow), (15, .mut), (16, .pure), (17, .pure)] .nil) (.seq [(14, .grow), (12, .grow), (15, .mut), (16, .pure), (17, .pure)] .nil))) (.both (.seq [(12, .grow)] (.both (.seq [(10, .grow), (14, .grow), (15, .mut), (16, .pure), (17, .pure)] .nil) (.seq [(14, .grow), (10, .grow), (15, .mut), (16, .pure), (17, .pure)] .nil))) (.seq [(14, .grow)] (.both (.seq [(10, .grow), (12, .grow), (15, .mut), (16, .pure), (17, .pure)] .nil) (.seq [(12, .grow), (10, .grow), (15, .mut), (16, .pure), (17, .pure)] .nil)))))) (.both (.seq [(10, .grow)] (.both (.seq [(7, .mut)] (.both (.seq [(12, .grow), (14, .grow), (15, .mut), (16, .pure), (17, .pure)] .nil) (.seq [(14, .grow), (12, .grow), (15, .mut), (16, .pure), (17, .pure)] .nil))) (.both (.seq [(12, .grow)] (.both (.seq [(7, .mut), (14, .grow), (15, .mut), (16, .pure), (17, .pure)] .nil) (.seq [(14, .grow), (7, .mut), (15, .mut), (16, .pure), (17, .pure)] .nil))) (.seq [(14, .grow)] (.both (.seq [(7, .mut), (12, .grow), (15, .mut), (16, .pure), (17, .pure)] .nil) (.seq [(12, .grow), (7, .mut), (15, .mut), (16, .pure), (17, .pure)] .nil)))))) (.both (.seq [(12, .grow)] (.both (.seq [(7, .mut)] (.both (.seq [(10, .grow), (14, .grow), (15, .mut), (16, .pure), (17, .pure)] .nil) (.seq [(14, .grow), (10, .grow), (15, .mut), (16, .pure), (17, .pure)] .nil))) (.both (.seq [(10, .grow)] (.both (.seq [(7, .mut), (14, .grow), (15, .mut), (16, .pure), (17, .pure)] .nil) (.seq [(14, .grow), (7, .mut), (15, .mut), (16, .pure), (17, .pure)] .nil))) (.seq [(14, .grow)] (.both (.seq [(7, .mut), (10, .grow), (15, .mut), (16, .pure), (17, .pure)] .nil) (.seq [(10, .grow), (7, .mut), (15, .mut), (16, .pure), (17, .pure)] .nil)))))) (.seq [(14, .grow)] (.both (.seq [(7, .mut)] (.both (.seq [(10, .grow), (12, .grow), (15, .mut), (16, .pure), (17, .pure)] .nil) (.seq [(12, .grow), (10, .grow), (15, .mut), (16, .pure), (17, .pure)] .nil))) (.both (.seq [(10, .grow)] (.both (.seq [(7, .mut), (12, .grow), (15, .mut), (16, .pure), (17, .pure)] .nil) (.seq [(12, .grow), (7, .mut), (15, .mut), (16, .pure), (17, .pure)] .nil))) (.seq [(12, .grow)] (.both (.seq [(7, .mut), (10, .grow), (15, .mut), (16, .pure), (17, .pure)] .nil) (.seq [(10, .grow), (7, .mut), (15, .mut), (16, .pure), (17, .pure)] .nil)))))))))) [262014, 262137, 229241, 262119, 229223, 262047, 229151, 0, 229119, 260607, 0, 255999, 0, 237567, 0, 0, 32639, 65535] [0, 0, 2, 0, 8, 0, 32, 85, 0, 0, 512, 0, 2048, 0, 8192, 21888, 32896, 131071] [229504, 229508, 229504, 229520, 229504, 229568, 229504, 229376, 229376, 230400, 229376, 233472, 229376, 245760, 229376, 196608, 131072, 0] [.pure, .pure, .read, .pure, .read, .pure, .read, .mut, .pure, .pure, .grow, .pure, .grow, .pure, .grow, .mut, .pure, .pure] rfl (by kernel_rfl) (by kernel_rfl) ?_
            refine .tSeq (.mv rfl rfl (.fa rfl rfl (.ld rfl rfl rfl rfl (.fa rfl rfl (.ld rfl rfl rfl rfl (.fa rfl rfl (.ld rfl rfl rfl rfl (.mv rfl rfl (.fa rfl rfl (.fa rfl rfl (.fa rfl rfl (.done (.thenN ?_)))))))))))))
            refine .tBoth ?_ ?_
            ·
              refine .tSeq (.callM rfl rfl (dropService_walk hR hw hsm.st) rfl rfl fun u68 h68 m68 hl68 hu68 => ?_)
              obtain ⟨rfl, hR'⟩ := hu68
              have hB := hl68 _ _ hB
              haveI : ∀ L, At h68 L b5 (.cells ⟨stpV s tv⟩ 35 (0, 0)) := fun L => At.ofH hB
              have hW' := hW.mono hl68
              refine .done (.thenN ?_)
              refine .tBoth ?_ ?_
              ·
                refine .tSeq (.ld rfl rfl rfl rfl (.done (.thenN ?_)))
                refine .tBoth ?_ ?_
                ·
                  refine .tSeq (.ld rfl rfl rfl rfl (.ld rfl rfl rfl rfl (?_)))
                  refine .callM rfl rfl (rfdropsvc_walk hW') rfl rfl fun u76 h76 m76 hl76 hu76 => ?_
                  obtain ⟨rfl, hW2⟩ := hu76
                  refine .cmp rfl rfl rfl rfl (.as_ rfl rfl (.done (.thenN ?_)))
                  refine .tNil (.thenN ?_)
                  exact J.mid (h76, m68, m76) ⟨hR'.mono hl76, hW2⟩ (.cons rfl (.nil _)) rfl rfl
                refine .tSeq (.ld rfl rfl rfl rfl (.ld rfl rfl rfl rfl (?_)))
                refine .callM rfl rfl (rfdropsvc_walk hW') rfl rfl fun u76 h76 m76 hl76 hu76 => ?_
                obtain ⟨rfl, hW2⟩ := hu76
                refine .cmp rfl rfl rfl rfl (.as_ rfl rfl (.done (.thenN ?_)))
                refine .tNil (.thenN ?_)
                exact J.mid (h76, m68, m76) ⟨hR'.mono hl76, hW2⟩ (.cons rfl (.nil _)) rfl rfl
              refine .tBoth ?_ ?_
              ·
                refine .tSeq (.ld rfl rfl rfl rfl (.done (.thenN ?_)))
                refine .tBoth ?_ ?_
                ·
                  refine .tSeq (.ld rfl rfl rfl rfl (.ld rfl rfl rfl rfl (?_)))
                  refine .callM rfl rfl (rfdropsvc_walk hW') rfl rfl fun u76 h76 m76 hl76 hu76 => ?_
                  obtain ⟨rfl, hW2⟩ := hu76
                  refine .cmp rfl rfl rfl rfl (.as_ rfl rfl (.done (.thenN ?_)))
                  refine .tNil (.thenN ?_)
                  exact J.mid (h76, m68, m76) ⟨hR'.mono hl76, hW2⟩ (.cons rfl (.nil _)) rfl rfl
                refine .tSeq (.ld rfl rfl rfl rfl (.ld rfl rfl rfl rfl (?_)))
                refine .callM rfl rfl (rfdropsvc_walk hW') rfl rfl fun u76 h76 m76 hl76 hu76 => ?_
                obtain ⟨rfl, hW2⟩ := hu76
                refine .cmp rfl rfl rfl rfl (.as_ rfl rfl (.done (.thenN ?_)))
                refine .tNil (.thenN ?_)
                exact J.mid (h76, m68, m76) ⟨hR'.mono hl76, hW2⟩ (.cons rfl (.nil _)) rfl rfl
              refine .tSeq (.ld rfl rfl rfl rfl (.done (.thenN ?_)))
              refine .tBoth ?_ ?_
              ·
                refine .tSeq (.ld rfl rfl rfl rfl (.ld rfl rfl rfl rfl (?_)))
                refine .callM rfl rfl (rfdropsvc_walk hW') rfl rfl fun u76 h76 m76 hl76 hu76 => ?_
                obtain ⟨rfl, hW2⟩ := hu76
                refine .cmp rfl rfl rfl rfl (.as_ rfl rfl (.done (.thenN ?_)))
                refine .tNil (.thenN ?_)
                exact J.mid (h76, m68, m76) ⟨hR'.mono hl76, hW2⟩ (.cons rfl (.nil _)) rfl rfl
              refine .tSeq (.ld rfl rfl rfl rfl (.ld rfl rfl rfl rfl (?_)))
              refine .callM rfl rfl (rfdropsvc_walk hW') rfl rfl fun u76 h76 m76 hl76 hu76 => ?_
              obtain ⟨rfl, hW2⟩ := hu76
              refine .cmp rfl rfl rfl rfl (.as_ rfl rfl (.done (.thenN ?_)))
              refine .tNil (.thenN ?_)
              exact J.mid (h76, m68, m76) ⟨hR'.mono hl76, hW2⟩ (.cons rfl (.nil _)) rfl rfl
            refine .tBoth ?_ ?_
            ·
              refine .tSeq (.ld rfl rfl rfl rfl (.done (.thenN ?_)))
              refine .tBoth ?_ ?_
              ·
                refine .tSeq (.callM rfl rfl (dropService_walk hR hw hsm.st) rfl rfl fun u68 h68 m68 hl68 hu68 => ?_)
                obtain ⟨rfl, hR'⟩ := hu68
                have hB := hl68 _ _ hB
                haveI : ∀ L, At h68 L b5 (.cells ⟨stpV s tv⟩ 35 (0, 0)) := fun L => At.ofH hB
                have hW' := hW.mono hl68
                refine .done (.thenN ?_)
                refine .tBoth ?_ ?_
                ·
                  refine .tSeq (.ld rfl rfl rfl rfl (.ld rfl rfl rfl rfl (?_)))
                  refine .callM rfl rfl (rfdropsvc_walk hW') rfl rfl fun u76 h76 m76 hl76 hu76 => ?_
                  obtain ⟨rfl, hW2⟩ := hu76
                  refine .cmp rfl rfl rfl rfl (.as_ rfl rfl (.done (.thenN ?_)))
                  refine .tNil (.thenN ?_)
                  exact J.mid (h76, m68, m76) ⟨hR'.mono hl76, hW2⟩ (.cons rfl (.nil _)) rfl rfl
                refine .tSeq (.ld rfl rfl rfl rfl (.ld rfl rfl rfl rfl (?_)))
                refine .callM rfl rfl (rfdropsvc_walk hW') rfl rfl fun u76 h76 m76 hl76 hu76 => ?_
                obtain ⟨rfl, hW2⟩ := hu76
                refine .cmp rfl rfl rfl rfl (.as_ rfl rfl (.done (.thenN ?_)))
                refine .tNil (.thenN ?_)
                exact J.mid (h76, m68, m76) ⟨hR'.mono hl76, hW2⟩ (.cons rfl (.nil _)) rfl rfl
              refine .tBoth ?_ ?_
              ·
                refine .tSeq (.ld rfl rfl rfl rfl (.done (.thenN ?_)))
                refine .tBoth ?_ ?_
                ·
                  refine .tSeq (.callM rfl rfl (dropService_walk hR hw hsm.st) rfl rfl fun u68 h68 m68 hl68 hu68 => ?_)
                  obtain ⟨rfl, hR'⟩ := hu68
                  have hB := hl68 _ _ hB
                  haveI : ∀ L, At h68 L b5 (.cells ⟨stpV s tv⟩ 35 (0, 0)) := fun L => At.ofH hB
                  have hW' := hW.mono hl68
                  refine .ld rfl rfl rfl rfl (?_)
                  refine .callM rfl rfl (rfdropsvc_walk hW') rfl rfl fun u76 h76 m76 hl76 hu76 => ?_
                  obtain ⟨rfl, hW2⟩ := hu76
                  refine .cmp rfl rfl rfl rfl (.as_ rfl rfl (.done (.thenN ?_)))
                  refine .tNil (.thenN ?_)
                  exact J.mid (h76, m68, m76) ⟨hR'.mono hl76, hW2⟩ (.cons rfl (.nil _)) rfl rfl
                refine .tSeq (.ld rfl rfl rfl rfl (?_))
                refine .callM rfl rfl (dropService_walk hR hw hsm.st) rfl rfl fun u68 h68 m68 hl68 hu68 => ?_
                obtain ⟨rfl, hR'⟩ := hu68
                have hB := hl68 _ _ hB
                haveI : ∀ L, At h68 L b5 (.cells ⟨stpV s tv⟩ 35 (0, 0)) := fun L => At.ofH hB
                have hW' := hW.mono hl68
                refine ?_
                refine .callM rfl rfl (rfdropsvc_walk hW') rfl rfl fun u76 h76 m76 hl76 hu76 => ?_
                obtain ⟨rfl, hW2⟩ := hu76
                refine .cmp rfl rfl rfl rfl (.as_ rfl rfl (.done (.thenN ?_)))
                refine .tNil (.thenN ?_)
                exact J.mid (h76, m68, m76) ⟨hR'.mono hl76, hW2⟩ (.cons rfl (.nil _)) rfl rfl
              refine .tSeq (.ld rfl rfl rfl rfl (.done (.thenN ?_)))
              refine .tBoth ?_ ?_
              ·
                refine .tSeq (.callM rfl rfl (dropService_walk hR hw hsm.st) rfl rfl fun u68 h68 m68 hl68 hu68 => ?_)
                obtain ⟨rfl, hR'⟩ := hu68
                have hB := hl68 _ _ hB
                haveI : ∀ L, At h68 L b5 (.cells ⟨stpV s tv⟩ 35 (0, 0)) := fun L => At.ofH hB
                have hW' := hW.mono hl68
                refine .ld rfl rfl rfl rfl (?_)
                refine .callM rfl rfl (rfdropsvc_walk hW') rfl rfl fun u76 h76 m76 hl76 hu76 => ?_
                obtain ⟨rfl, hW2⟩ := hu76
                refine .cmp rfl rfl rfl rfl (.as_ rfl rfl (.done (.thenN ?_)))
                refine .tNil (.thenN ?_)
                exact J.mid (h76, m68, m76) ⟨hR'.mono hl76, hW2⟩ (.cons rfl (.nil _)) rfl rfl
              refine .tSeq (.ld rfl rfl rfl rfl (?_))
              refine .callM rfl rfl (dropService_walk hR hw hsm.st) rfl rfl fun u68 h68 m68 hl68 hu68 => ?_
              obtain ⟨rfl, hR'⟩ := hu68
              have hB := hl68 _ _ hB
              haveI : ∀ L, At h68 L b5 (.cells ⟨stpV s tv⟩ 35 (0, 0)) := fun L => At.ofH hB
              have hW' := hW.mono hl68
              refine ?_
              refine .callM rfl rfl (rfdropsvc_walk hW') rfl rfl fun u76 h76 m76 hl76 hu76 => ?_
              obtain ⟨rfl, hW2⟩ := hu76
              refine .cmp rfl rfl rfl rfl (.as_ rfl rfl (.done (.thenN ?_)))
              refine .tNil (.thenN ?_)
              exact J.mid (h76, m68, m76) ⟨hR'.mono hl76, hW2⟩ (.cons rfl (.nil _)) rfl rfl
            refine .tBoth ?_ ?_
            ·
              refine .tSeq (.ld rfl rfl rfl rfl (.done (.thenN ?_)))
              refine .tBoth ?_ ?_
              ·
                refine .tSeq (.callM rfl rfl (dropService_walk hR hw hsm.st) rfl rfl fun u68 h68 m68 hl68 hu68 => ?_)
                obtain ⟨rfl, hR'⟩ := hu68
                have hB := hl68 _ _ hB
                haveI : ∀ L, At h68 L b5 (.cells ⟨stpV s tv⟩ 35 (0, 0)) := fun L => At.ofH hB
                have hW' := hW.mono hl68
                refine .done (.thenN ?_)
                refine .tBoth ?_ ?_
                ·
                  refine .tSeq (.ld rfl rfl rfl rfl (.ld rfl rfl rfl rfl (?_)))
                  refine .callM rfl rfl (rfdropsvc_walk hW') rfl rfl fun u76 h76 m76 hl76 hu76 => ?_
                  obtain ⟨rfl, hW2⟩ := hu76
                  refine .cmp rfl rfl rfl rfl (.as_ rfl rfl (.done (.thenN ?_)))
                  refine .tNil (.thenN ?_)
                  exact J.mid (h76, m68, m76) ⟨hR'.mono hl76, hW2⟩ (.cons rfl (.nil _)) rfl rfl
                refine .tSeq (.ld rfl rfl rfl rfl (.ld rfl rfl rfl rfl (?_)))
                refine .callM rfl rfl (rfdropsvc_walk hW') rfl rfl fun u76 h76 m76 hl76 hu76 => ?_
                obtain ⟨rfl, hW2⟩ := hu76
                refine .cmp rfl rfl rfl rfl (.as_ rfl rfl (.done (.thenN ?_)))
                refine .tNil (.thenN ?_)
                exact J.mid (h76, m68, m76) ⟨hR'.mono hl76, hW2⟩ (.cons rfl (.nil _)) rfl rfl
              refine .tBoth ?_ ?_
              ·
                refine .tSeq (.ld rfl rfl rfl rfl (.done (.thenN ?_)))
                refine .tBoth ?_ ?_
                ·
                  refine .tSeq (.callM rfl rfl (dropService_walk hR hw hsm.st) rfl rfl fun u68 h68 m68 hl68 hu68 => ?_)
                  obtain ⟨rfl, hR'⟩ := hu68
                  have hB := hl68 _ _ hB
                  haveI : ∀ L, At h68 L b5 (.cells ⟨stpV s tv⟩ 35 (0, 0)) := fun L => At.ofH hB
                  have hW' := hW.mono hl68
                  refine .ld rfl rfl rfl rfl (?_)
                  refine .callM rfl rfl (rfdropsvc_walk hW') rfl rfl fun u76 h76 m76 hl76 hu76 => ?_
                  obtain ⟨rfl, hW2⟩ := hu76
                  refine .cmp rfl rfl rfl rfl (.as_ rfl rfl (.done (.thenN ?_)))
                  refine .tNil (.thenN ?_)
                  exact J.mid (h76, m68, m76) ⟨hR'.mono hl76, hW2⟩ (.cons rfl (.nil _)) rfl rfl
                refine .tSeq (.ld rfl rfl rfl rfl (?_))
                refine .callM rfl rfl (dropService_walk hR hw hsm.st) rfl rfl fun u68 h68 m68 hl68 hu68 => ?_
                obtain ⟨rfl, hR'⟩ := hu68
                have hB := hl68 _ _ hB
                haveI : ∀ L, At h68 L b5 (.cells ⟨stpV s tv⟩ 35 (0, 0)) := fun L => At.ofH hB
                have hW' := hW.mono hl68
                refine ?_
                refine .callM rfl rfl (rfdropsvc_walk hW') rfl rfl fun u76 h76 m76 hl76 hu76 => ?_
                obtain ⟨rfl, hW2⟩ := hu76
                refine .cmp rfl rfl rfl rfl (.as_ rfl rfl (.done (.thenN ?_)))
                refine .tNil (.thenN ?_)
                exact J.mid (h76, m68, m76) ⟨hR'.mono hl76, hW2⟩ (.cons rfl (.nil _)) rfl rfl
              refine .tSeq (.ld rfl rfl rfl rfl (.done (.thenN ?_)))
              refine .tBoth ?_ ?_
              ·
                refine .tSeq (.callM rfl rfl (dropService_walk hR hw hsm.st) rfl rfl fun u68 h68 m68 hl68 hu68 => ?_)
                obtain ⟨rfl, hR'⟩ := hu68
                have hB := hl68 _ _ hB
                haveI : ∀ L, At h68 L b5 (.cells ⟨stpV s tv⟩ 35 (0, 0)) := fun L => At.ofH hB
                have hW' := hW.mono hl68
                refine .ld rfl rfl rfl rfl (?_)
                refine .callM rfl rfl (rfdropsvc_walk hW') rfl rfl fun u76 h76 m76 hl76 hu76 => ?_
                obtain ⟨rfl, hW2⟩ := hu76
                refine .cmp rfl rfl rfl rfl (.as_ rfl rfl (.done (.thenN ?_)))
                refine .tNil (.thenN ?_)
                exact J.mid (h76, m68, m76) ⟨hR'.mono hl76, hW2⟩ (.cons rfl (.nil _)) rfl rfl
              refine .tSeq (.ld rfl rfl rfl rfl (?_))
              refine .callM rfl rfl (dropService_walk hR hw hsm.st) rfl rfl fun u68 h68 m68 hl68 hu68 => ?_
              obtain ⟨rfl, hR'⟩ := hu68
              have hB := hl68 _ _ hB
              haveI : ∀ L, At h68 L b5 (.cells ⟨stpV s tv⟩ 35 (0, 0)) := fun L => At.ofH hB
              have hW' := hW.mono hl68
              refine ?_
              refine .callM rfl rfl (rfdropsvc_walk hW') rfl rfl fun u76 h76 m76 hl76 hu76 => ?_
              obtain ⟨rfl, hW2⟩ := hu76
              refine .cmp rfl rfl rfl rfl (.as_ rfl rfl (.done (.thenN ?_)))
              refine .tNil (.thenN ?_)
              exact J.mid (h76, m68, m76) ⟨hR'.mono hl76, hW2⟩ (.cons rfl (.nil _)) rfl rfl
            refine .tSeq (.ld rfl rfl rfl rfl (.done (.thenN ?_)))
            refine .tBoth ?_ ?_
            ·
              refine .tSeq (.callM rfl rfl (dropService_walk hR hw hsm.st) rfl rfl fun u68 h68 m68 hl68 hu68 => ?_)
              obtain ⟨rfl, hR'⟩ := hu68
              have hB := hl68 _ _ hB
              haveI : ∀ L, At h68 L b5 (.cells ⟨stpV s tv⟩ 35 (0, 0)) := fun L => At.ofH hB
              have hW' := hW.mono hl68
              refine .done (.thenN ?_)
              refine .tBoth ?_ ?_
              ·
                refine .tSeq (.ld rfl rfl rfl rfl (.ld rfl rfl rfl rfl (?_)))
                refine .callM rfl rfl (rfdropsvc_walk hW') rfl rfl fun u76 h76 m76 hl76 hu76 => ?_
                obtain ⟨rfl, hW2⟩ := hu76
                refine .cmp rfl rfl rfl rfl (.as_ rfl rfl (.done (.thenN ?_)))
                refine .tNil (.thenN ?_)
                exact J.mid (h76, m68, m76) ⟨hR'.mono hl76, hW2⟩ (.cons rfl (.nil _)) rfl rfl
              refine .tSeq (.ld rfl rfl rfl rfl (.ld rfl rfl rfl rfl (?_)))
              refine .callM rfl rfl (rfdropsvc_walk hW') rfl rfl fun u76 h76 m76 hl76 hu76 => ?_
              obtain ⟨rfl, hW2⟩ := hu76
              refine .cmp rfl rfl rfl rfl (.as_ rfl rfl (.done (.thenN ?_)))
              refine .tNil (.thenN ?_)
              exact J.mid (h76, m68, m76) ⟨hR'.mono hl76, hW2⟩ (.cons rfl (.nil _)) rfl rfl
            refine .tBoth ?_ ?_
            ·
              refine .tSeq (.ld rfl rfl rfl rfl (.done (.thenN ?_)))
              refine .tBoth ?_ ?_
              ·
                refine .tSeq (.callM rfl rfl (dropService_walk hR hw hsm.st) rfl rfl fun u68 h68 m68 hl68 hu68 => ?_)
                obtain ⟨rfl, hR'⟩ := hu68
                have hB := hl68 _ _ hB
                haveI : ∀ L, At h68 L b5 (.cells ⟨stpV s tv⟩ 35 (0, 0)) := fun L => At.ofH hB
                have hW' := hW.mono hl68
                refine .ld rfl rfl rfl rfl (?_)
                refine .callM rfl rfl (rfdropsvc_walk hW') rfl rfl fun u76 h76 m76 hl76 hu76 => ?_
                obtain ⟨rfl, hW2⟩ := hu76
                refine .cmp rfl rfl rfl rfl (.as_ rfl rfl (.done (.thenN ?_)))
                refine .tNil (.thenN ?_)
                exact J.mid (h76, m68, m76) ⟨hR'.mono hl76, hW2⟩ (.cons rfl (.nil _)) rfl rfl
              refine .tSeq (.ld rfl rfl rfl rfl (?_))
              refine .callM rfl rfl (dropService_walk hR hw hsm.st) rfl rfl fun u68 h68 m68 hl68 hu68 => ?_
              obtain ⟨rfl, hR'⟩ := hu68
              have hB := hl68 _ _ hB
              haveI : ∀ L, At h68 L b5 (.cells ⟨stpV s tv⟩ 35 (0, 0)) := fun L => At.ofH hB
              have hW' := hW.mono hl68
              refine ?_
              refine .callM rfl rfl (rfdropsvc_walk hW') rfl rfl fun u76 h76 m76 hl76 hu76 => ?_
              obtain ⟨rfl, hW2⟩ := hu76
              refine .cmp rfl rfl rfl rfl (.as_ rfl rfl (.done (.thenN ?_)))
              refine .tNil (.thenN ?_)
              exact J.mid (h76, m68, m76) ⟨hR'.mono hl76, hW2⟩ (.cons rfl (.nil _)) rfl rfl
            refine .tSeq (.ld rfl rfl rfl rfl (.done (.thenN ?_)))
            refine .tBoth ?_ ?_
            ·
              refine .tSeq (.callM rfl rfl (dropService_walk hR hw hsm.st) rfl rfl fun u68 h68 m68 hl68 hu68 => ?_)
              obtain ⟨rfl, hR'⟩ := hu68
              have hB := hl68 _ _ hB
              haveI : ∀ L, At h68 L b5 (.cells ⟨stpV s tv⟩ 35 (0, 0)) := fun L => At.ofH hB
              have hW' := hW.mono hl68
              refine .ld rfl rfl rfl rfl (?_)
              refine .callM rfl rfl (rfdropsvc_walk hW') rfl rfl fun u76 h76 m76 hl76 hu76 => ?_
              obtain ⟨rfl, hW2⟩ := hu76
              refine .cmp rfl rfl rfl rfl (.as_ rfl rfl (.done (.thenN ?_)))
              refine .tNil (.thenN ?_)
              exact J.mid (h76, m68, m76) ⟨hR'.mono hl76, hW2⟩ (.cons rfl (.nil _)) rfl rfl
            refine .tSeq (.ld rfl rfl rfl rfl (?_))
            refine .callM rfl rfl (dropService_walk hR hw hsm.st) rfl rfl fun u68 h68 m68 hl68 hu68 => ?_
            obtain ⟨rfl, hR'⟩ := hu68
            have hB := hl68 _ _ hB
            haveI : ∀ L, At h68 L b5 (.cells ⟨stpV s tv⟩ 35 (0, 0)) := fun L => At.ofH hB
            have hW' := hW.mono hl68
            refine ?_
            refine .callM rfl rfl (rfdropsvc_walk hW') rfl rfl fun u76 h76 m76 hl76 hu76 => ?_
            obtain ⟨rfl, hW2⟩ := hu76
            refine .cmp rfl rfl rfl rfl (.as_ rfl rfl (.done (.thenN ?_)))
            refine .tNil (.thenN ?_)
            exact J.mid (h76, m68, m76) ⟨hR'.mono hl76, hW2⟩ (.cons rfl (.nil _)) rfl rfl
          ·
            rintro ⟨h9, m9, mw9⟩ ⟨hR', hW2⟩
            refine .ret (.blkR (.thenR ?_))
            exact J.retTmp rfl (List.Sublist.refl _) ⟨_, _, rfl, by rw [stepB, if_neg (ifn hb2), if_neg (ifn hb4), if_neg (ifn hb6), if_pos hb8]; rfl, by rw [stepR, if_neg (ifn hb2), if_neg (ifn hb4), if_neg (ifn hb6), if_pos hb8]; exact hR', by rw [stepW, if_neg (ifn hb2), if_neg (ifn hb4), if_neg (ifn hb6), if_pos hb8]; exact hW2⟩
        ·
          refine .seq (.text (.cmp rfl rfl rfl rfl (.as_ rfl rfl (.done (.thenN ?_)))))
          refine .cond rfl (fun hb10 => ?_) (fun hb10 => ?_)
          ·
            refine J.cut (ι := Hp × Hp × Hp) (fun i => Ro i.2.1 i.1 rp (chkR R s.c s.ix) ∧ Rb i.2.2 i.1 wb (rfChkW W s.c s.ix)) (fun i => [(6, .bool (decide (chkE R s.c = rfChkE W s.c)))]) (fun i => i.1) (fun i => [i.2.1, i.2.2]) ?_ ?_
            ·
              refine .tree2 (.seq [(0, .pure), (1, .pure), (2, .read), (3, .pure), (4, .read), (6, .pure), (7, .pure), (9, .pure)] (.both (.seq [(5, .mut)] (.both (.seq [(8, .grow), (10, .grow), (11, .mut), (12, .pure), (13, .pure)] .nil) (.seq [(10, .grow), (8, .grow), (11, .mut), (12, .pure), (13, .pure)] .nil))) (.both (.seq [(8, .grow)] (.both (.seq [(5, .mut), (10, .grow), (11, .mut), (12, .pure), (13, .pure)] .nil) (.seq [(10, .grow), (5, .mut), (11, .mut), (12, .pure), (13, .pure)] .nil))) (.seq [(10, .grow)] (.both (.seq [(5, .mut), (8, .grow), (11, .mut), (12, .pure), (13, .pure)] .nil) (.seq [(8, .grow), (5, .mut), (11, .mut), (12, .pure), (13, .pure)] .nil)))))) [16350, 16377, 14297, 16359, 14279, 0, 14271, 15999, 0, 14847, 0, 0, 2015, 4095] [0, 0, 2, 0, 8, 21, 0, 0, 128, 0, 512, 1376, 2080, 8191] [14368, 14372, 14368, 14384, 14368, 14336, 14336, 14592, 14336, 15360, 14336, 12288, 8192, 0] [.pure, .pure, .read, .pure, .read, .mut, .pure, .pure, .grow, .pure, .grow, .mut, .pure, .pure] rfl (by kernel_rfl) (by kernel_rfl) ?_
              refine .tSeq (.mv rfl rfl (.fa rfl rfl (.ldA (chkV s.c) rfl rfl rfl rfl rfl (.fa rfl rfl (.ld rfl rfl rfl rfl (.mv rfl rfl (.fa rfl rfl (.fa rfl rfl (.done (.thenN ?_))))))))))
              refine .tBoth ?_ ?_
              ·
                refine .tSeq (.callM rfl rfl (check_walk hR hw hsm.sc) rfl rfl fun u85 h85 m85 hl85 hu85 => ?_)
                obtain ⟨e85, rfl, hR'⟩ := hu85
                have e85 := e85.symm
                subst e85
                have hW' := hW.mono hl85
                refine .done (.thenN ?_)
                refine .tBoth ?_ ?_
                ·
                  refine .tSeq (.ldA (chkV s.c) rfl rfl rfl rfl rfl (.ld rfl rfl rfl rfl (?_)))
                  refine .callM rfl rfl (rfchk_walk hW' hwf) rfl rfl fun u91 h91 m91 hl91 hu91 => ?_
                  obtain ⟨rfl, hW2⟩ := hu91
                  refine .cmp rfl rfl rfl rfl (.as_ rfl rfl (.done (.thenN ?_)))
                  refine .tNil (.thenN ?_)
                  exact J.mid (h91, m85, m91) ⟨hR'.mono hl91, hW2⟩ (.cons rfl (.nil _)) rfl rfl
                refine .tSeq (.ld rfl rfl rfl rfl (.ldA (chkV s.c) rfl rfl rfl rfl rfl (?_)))
                refine .callM rfl rfl (rfchk_walk hW' hwf) rfl rfl fun u91 h91 m91 hl91 hu91 => ?_
                obtain ⟨rfl, hW2⟩ := hu91
                refine .cmp rfl rfl rfl rfl (.as_ rfl rfl (.done (.thenN ?_)))
                refine .tNil (.thenN ?_)
                exact J.mid (h91, m85, m91) ⟨hR'.mono hl91, hW2⟩ (.cons rfl (.nil _)) rfl rfl
              refine .tBoth ?_ ?_
              ·
                refine .tSeq (.ldA (chkV s.c) rfl rfl rfl rfl rfl (.done (.thenN ?_)))
                refine .tBoth ?_ ?_
                ·
                  refine .tSeq (.callM rfl rfl (check_walk hR hw hsm.sc) rfl rfl fun u85 h85 m85 hl85 hu85 => ?_)
                  obtain ⟨e85, rfl, hR'⟩ := hu85
                  have e85 := e85.symm
                  subst e85
                  have hW' := hW.mono hl85
                  refine .ld rfl rfl rfl rfl (?_)
                  refine .callM rfl rfl (rfchk_walk hW' hwf) rfl rfl fun u91 h91 m91 hl91 hu91 => ?_
                  obtain ⟨rfl, hW2⟩ := hu91
                  refine .cmp rfl rfl rfl rfl (.as_ rfl rfl (.done (.thenN ?_)))
                  refine .tNil (.thenN ?_)
                  exact J.mid (h91, m85, m91) ⟨hR'.mono hl91, hW2⟩ (.cons rfl (.nil _)) rfl rfl
                refine .tSeq (.ld rfl rfl rfl rfl (?_))
                refine .callM rfl rfl (check_walk hR hw hsm.sc) rfl rfl fun u85 h85 m85 hl85 hu85 => ?_
                obtain ⟨e85, rfl, hR'⟩ := hu85
                have e85 := e85.symm
                subst e85
                have hW' := hW.mono hl85
                refine ?_
                refine .callM rfl rfl (rfchk_walk hW' hwf) rfl rfl fun u91 h91 m91 hl91 hu91 => ?_
                obtain ⟨rfl, hW2⟩ := hu91
                refine .cmp rfl rfl rfl rfl (.as_ rfl rfl (.done (.thenN ?_)))
                refine .tNil (.thenN ?_)
                exact J.mid (h91, m85, m91) ⟨hR'.mono hl91, hW2⟩ (.cons rfl (.nil _)) rfl rfl
              refine .tSeq (.ld rfl rfl rfl rfl (.done (.thenN ?_)))
              refine .tBoth ?_ ?_
              ·
                refine .tSeq (.callM rfl rfl (check_walk hR hw hsm.sc) rfl rfl fun u85 h85 m85 hl85 hu85 => ?_)
                obtain ⟨e85, rfl, hR'⟩ := hu85
                have e85 := e85.symm
                subst e85
                have hW' := hW.mono hl85
                refine .ldA (chkV s.c) rfl rfl rfl rfl rfl (?_)
                refine .callM rfl rfl (rfchk_walk hW' hwf) rfl rfl fun u91 h91 m91 hl91 hu91 => ?_
                obtain ⟨rfl, hW2⟩ := hu91
                refine .cmp rfl rfl rfl rfl (.as_ rfl rfl (.done (.thenN ?_)))
                refine .tNil (.thenN ?_)
                exact J.mid (h91, m85, m91) ⟨hR'.mono hl91, hW2⟩ (.cons rfl (.nil _)) rfl rfl
              refine .tSeq (.ldA (chkV s.c) rfl rfl rfl rfl rfl (?_))
              refine .callM rfl rfl (check_walk hR hw hsm.sc) rfl rfl fun u85 h85 m85 hl85 hu85 => ?_
              obtain ⟨e85, rfl, hR'⟩ := hu85
              have e85 := e85.symm
              subst e85
              have hW' := hW.mono hl85
              refine ?_
              refine .callM rfl rfl (rfchk_walk hW' hwf) rfl rfl fun u91 h91 m91 hl91 hu91 => ?_
              obtain ⟨rfl, hW2⟩ := hu91
              refine .cmp rfl rfl rfl rfl (.as_ rfl rfl (.done (.thenN ?_)))
              refine .tNil (.thenN ?_)
              exact J.mid (h91, m85, m91) ⟨hR'.mono hl91, hW2⟩ (.cons rfl (.nil _)) rfl rfl
            ·
              rintro ⟨h9, m9, mw9⟩ ⟨hR', hW2⟩
              refine .ret (.blkR (.thenR ?_))
              exact J.retTmp rfl (List.Sublist.refl _) ⟨_, _, rfl, by rw [stepB, if_neg (ifn hb2), if_neg (ifn hb4), if_neg (ifn hb6), if_neg (ifn hb8), if_pos hb10]; rfl, by rw [stepR, if_neg (ifn hb2), if_neg (ifn hb4), if_neg (ifn hb6), if_neg (ifn hb8), if_pos hb10]; exact hR', by rw [stepW, if_neg (ifn hb2), if_neg (ifn hb4), if_neg (ifn hb6), if_neg (ifn hb8), if_pos hb10]; exact hW2⟩
          ·
            refine .seq (.text (.cmp rfl rfl rfl rfl (.as_ rfl rfl (.done (.thenN ?_)))))
            refine .cond rfl (fun hb12 => ?_) (fun hb12 => ?_)
            ·
              refine J.cut (ι := Hp × Hp × Hp) (fun i => Ro i.2.1 i.1 rp (dropChkR R s.node s.text s.ix) ∧ Rb i.2.2 i.1 wb (rfDropCW W s.node s.text s.ix)) (fun i => [(6, .bool (decide (dropChkE R s.node s.text = rfDropCE W s.node s.text)))]) (fun i => i.1) (fun i => [i.2.1, i.2.2]) ?_ ?_
              ·
                refine .tree2 (.seq [(0, .pure), (1, .pure), (2, .read), (3, .pure), (4, .read), (5, .pure), (6, .read), (8, .pure), (9, .pure), (11, .pure), (13, .pure)] (.both (.seq [(7, .mut)] (.both (.seq [(10, .grow)] (.both (.seq [(12, .grow), (14, .grow), (15, .mut), (16, .pure), (17, .pure)] .nil) (.seq [(14, .grow), (12, .grow), (15, .mut), (16, .pure), (17, .pure)] .nil))) (.both (.seq [(12, .grow)] (.both (.seq [(10, .grow), (14, .grow), (15, .mut), (16, .pure), (17, .pure)] .nil) (.seq [(14, .grow), (10, .grow), (15, .mut), (16, .pure), (17, .pure)] .nil))) (.seq [(14, .grow)] (.both (.seq [(10, .grow), (12, .grow), (15, .mut), (16, .pure), (17, .pure)] .nil) (.seq [(12, .grow), (10, .grow), (15, .mut), (16, .pure), (17, .pure)] .nil)))))) (.both (.seq [(10, .grow)] (.both (.seq [(7, .mut)] (.both (.seq [(12, .grow), (14, .grow), (15, .mut), (16, .pure), (17, .pure)] .nil) (.seq [(14, .grow), (12, .grow), (15, .mut), (16, .pure), (17, .pure)] .nil))) (.both (.seq [(12, .grow)] (.both (.seq [(7, .mut), (14, .grow), (15, .mut), (16, .pure), (17, .pure)] .nil) (.seq [(14, .grow), (7, .mut), (15, .mut), (16, .pure), (17, .pure)] .nil))) (.seq [(14, .grow)] (.both (.seq [(7, .mut), (12, .grow), (15, .mut), (16, .pure), (17, .pure)] .nil) (.seq [(12, .grow), (7, .mut), (15, .mut), (16, .pure), (17, .pure)] .nil)))))) (.both (.seq [(12, .grow)] (.both (.seq [(7, .mut)] (.both (.seq [(10, .grow), (14, .grow), (15, .mut), (16, .pure), (17, .pure)] .nil) (.seq [(14, .grow), (10, .grow), (15, .mut), (16, .pure), (17, .pure)] .nil))) (.both (.seq [(10, .grow)] (.both (.seq [(7, .mut), (14, .grow), (15, .mut), (16, .pure), (17, .pure)] .nil) (.seq [(14, .grow), (7, .mut), (15, .mut), (16, .pure), (17, .pure)] .nil))) (.seq [(14, .grow)] (.both (.seq [(7, .mut), (10, .grow), (15, .mut), (16, .pure), (17, .pure)] .nil) (.seq [(10, .grow), (7, .mut), (15, .mut), (16, .pure), (17, .pure)] .nil)))))) (.seq [(14, .grow)] (.both (.seq [(7, .mut)] (.both (.seq [(10, .grow), (12, .grow), (15, .mut), (16, .pure), (17, .pure)] .nil) (.seq [(12, .grow), (10, .grow), (15, .mut), (16, .pure), (17, .pure)] .nil))) (.both (.seq [(10, .grow)] (.both (.seq [(7, .mut), (12, .grow), (15, .mut), (16, .pure), (17, .pure)] .nil) (.seq [(12, .grow), (7, .mut), (15, .mut), (16, .pure), (17, .pure)] .nil))) (.seq [(12, .grow)] (.both (.seq [(7, .mut), (10, .grow), (15, .mut), (16, .pure), (17, .pure)] .nil) (.seq [(10, .grow), (7, .mut), (15, .mut), (16, .pure), (17, .pure)] .nil)))))))))) [262014, 262137, 229241, 262119, 229223, 262047, 229151, 0, 229119, 260607, 0, 255999, 0, 237567, 0, 0, 32639, 65535] [0, 0, 2, 0, 8, 0, 32, 85, 0, 0, 512, 0, 2048, 0, 8192, 21888, 32896, 131071] [229504, 229508, 229504, 229520, 229504, 229568, 229504, 229376, 229376, 230400, 229376, 233472, 229376, 245760, 229376, 196608, 131072, 0] [.pure, .pure, .read, .pure, .read, .pure, .read, .mut, .pure, .pure, .grow, .pure, .grow, .pure, .grow, .mut, .pure, .pure] rfl (by kernel_rfl) (by kernel_rfl) ?_
                refine .tSeq (.mv rfl rfl (.fa rfl rfl (.ld rfl rfl rfl rfl (.fa rfl rfl (.ld rfl rfl rfl rfl (.fa rfl rfl (.ld rfl rfl rfl rfl (.mv rfl rfl (.fa rfl rfl (.fa rfl rfl (.fa rfl rfl (.done (.thenN ?_)))))))))))))
                refine .tBoth ?_ ?_
                ·
                  refine .tSeq (.callM rfl rfl (dropCheck_walk hR hw hsm.st) rfl rfl fun u102 h102 m102 hl102 hu102 => ?_)
                  obtain ⟨rfl, hR'⟩ := hu102
                  have hB := hl102 _ _ hB
                  haveI : ∀ L, At h102 L b5 (.cells ⟨stpV s tv⟩ 35 (0, 0)) := fun L => At.ofH hB
                  have hW' := hW.mono hl102
                  refine .done (.thenN ?_)
                  refine .tBoth ?_ ?_
                  ·
                    refine .tSeq (.ld rfl rfl rfl rfl (.done (.thenN ?_)))
                    refine .tBoth ?_ ?_
                    ·
                      refine .tSeq (.ld rfl rfl rfl rfl (.ld rfl rfl rfl rfl (?_)))
                      refine .callM rfl rfl (rfdropchk_walk hW') rfl rfl fun u110 h110 m110 hl110 hu110 => ?_
                      obtain ⟨rfl, hW2⟩ := hu110
                      refine .cmp rfl rfl rfl rfl (.as_ rfl rfl (.done (.thenN ?_)))
                      refine .tNil (.thenN ?_)
                      exact J.mid (h110, m102, m110) ⟨hR'.mono hl110, hW2⟩ (.cons rfl (.nil _)) rfl rfl
                    refine .tSeq (.ld rfl rfl rfl rfl (.ld rfl rfl rfl rfl (?_)))
                    refine .callM rfl rfl (rfdropchk_walk hW') rfl rfl fun u110 h110 m110 hl110 hu110 => ?_
                    obtain ⟨rfl, hW2⟩ := hu110
                    refine .cmp rfl rfl rfl rfl (.as_ rfl rfl (.done (.thenN ?_)))
                    refine .tNil (.thenN ?_)
                    exact J.mid (h110, m102, m110) ⟨hR'.mono hl110, hW2⟩ (.cons rfl (.nil _)) rfl rfl
                  refine .tBoth ?_ ?_
                  ·
                    refine .tSeq (.ld rfl rfl rfl rfl (.done (.thenN ?_)))
                    refine .tBoth ?_ ?_
                    ·
                      refine .tSeq (.ld rfl rfl rfl rfl (.ld rfl rfl rfl rfl (?_)))
                      refine .callM rfl rfl (rfdropchk_walk hW') rfl rfl fun u110 h110 m110 hl110 hu110 => ?_
                      obtain ⟨rfl, hW2⟩ := hu110
                      refine .cmp rfl rfl rfl rfl (.as_ rfl rfl (.done (.thenN ?_)))
                      refine .tNil (.thenN ?_)
                      exact J.mid (h110, m102, m110) ⟨hR'.mono hl110, hW2⟩ (.cons rfl (.nil _)) rfl rfl
                    refine .tSeq (.ld rfl rfl rfl rfl (.ld rfl rfl rfl rfl (?_)))
                    refine .callM rfl rfl (rfdropchk_walk hW') rfl rfl fun u110 h110 m110 hl110 hu110 => ?_
                    obtain ⟨rfl, hW2⟩ := hu110
                    refine .cmp rfl rfl rfl rfl (.as_ rfl rfl (.done (.thenN ?_)))
                    refine .tNil (.thenN ?_)
                    exact J.mid (h110, m102, m110) ⟨hR'.mono hl110, hW2⟩ (.cons rfl (.nil _)) rfl rfl
                  refine .tSeq (.ld rfl rfl rfl rfl (.done (.thenN ?_)))
                  refine .tBoth ?_ ?_
                  ·
                    refine .tSeq (.ld rfl rfl rfl rfl (.ld rfl rfl rfl rfl (?_)))
                    refine .callM rfl rfl (rfdropchk_walk hW') rfl rfl fun u110 h110 m110 hl110 hu110 => ?_
                    obtain ⟨rfl, hW2⟩ := hu110
                    refine .cmp rfl rfl rfl rfl (.as_ rfl rfl (.done (.thenN ?_)))
                    refine .tNil (.thenN ?_)
                    exact J.mid (h110, m102, m110) ⟨hR'.mono hl110, hW2⟩ (.cons rfl (.nil _)) rfl rfl
                  refine .tSeq (.ld rfl rfl rfl rfl (.ld rfl rfl rfl rfl (?_)))
                  refine .callM rfl rfl (rfdropchk_walk hW') rfl rfl fun u110 h110 m110 hl110 hu110 => ?_
                  obtain ⟨rfl, hW2⟩ := hu110
                  refine .cmp rfl rfl rfl rfl (.as_ rfl rfl (.done (.thenN ?_)))
                  refine .tNil (.thenN ?_)
                  exact J.mid (h110, m102, m110) ⟨hR'.mono hl110, hW2⟩ (.cons rfl (.nil _)) rfl rfl
                refine .tBoth ?_ ?_
                ·
                  refine .tSeq (.ld rfl rfl rfl rfl (.done (.thenN ?_)))
                  refine .tBoth ?_ ?_
                  ·
                    refine .tSeq (.callM rfl rfl (dropCheck_walk hR hw hsm.st) rfl rfl fun u102 h102 m102 hl102 hu102 => ?_)
                    obtain ⟨rfl, hR'⟩ := hu102
                    have hB := hl102 _ _ hB
                    haveI : ∀ L, At h102 L b5 (.cells ⟨stpV s tv⟩ 35 (0, 0)) := fun L => At.ofH hB
                    have hW' := hW.mono hl102
                    refine .done (.thenN ?_)
                    refine .tBoth ?_ ?_
                    ·
                      refine .tSeq (.ld rfl rfl rfl rfl (.ld rfl rfl rfl rfl (?_)))
                      refine .callM rfl rfl (rfdropchk_walk hW') rfl rfl fun u110 h110 m110 hl110 hu110 => ?_
                      obtain ⟨rfl, hW2⟩ := hu110
                      refine .cmp rfl rfl rfl rfl (.as_ rfl rfl (.done (.thenN ?_)))
                      refine .tNil (.thenN ?_)
                      exact J.mid (h110, m102, m110) ⟨hR'.mono hl110, hW2⟩ (.cons rfl (.nil _)) rfl rfl
                    refine .tSeq (.ld rfl rfl rfl rfl (.ld rfl rfl rfl rfl (?_)))
                    refine .callM rfl rfl (rfdropchk_walk hW') rfl rfl fun u110 h110 m110 hl110 hu110 => ?_
                    obtain ⟨rfl, hW2⟩ := hu110
                    refine .cmp rfl rfl rfl rfl (.as_ rfl rfl (.done (.thenN ?_)))
                    refine .tNil (.thenN ?_)
                    exact J.mid (h110, m102, m110) ⟨hR'.mono hl110, hW2⟩ (.cons rfl (.nil _)) rfl rfl
                  refine .tBoth ?_ ?_
                  ·
                    refine .tSeq (.ld rfl rfl rfl rfl (.done (.thenN ?_)))
                    refine .tBoth ?_ ?_
                    ·
                      refine .tSeq (.callM rfl rfl (dropCheck_walk hR hw hsm.st) rfl rfl fun u102 h102 m102 hl102 hu102 => ?_)
                      obtain ⟨rfl, hR'⟩ := hu102
                      have hB := hl102 _ _ hB
                      haveI : ∀ L, At h102 L b5 (.cells ⟨stpV s tv⟩ 35 (0, 0)) := fun L => At.ofH hB
                      have hW' := hW.mono hl102
                      refine .ld rfl rfl rfl rfl (?_)
                      refine .callM rfl rfl (rfdropchk_walk hW') rfl rfl fun u110 h110 m110 hl110 hu110 => ?_
                      obtain ⟨rfl, hW2⟩ := hu110
                      refine .cmp rfl rfl rfl rfl (.as_ rfl rfl (.done (.thenN ?_)))
                      refine .tNil (.thenN ?_)
                      exact J.mid (h110, m102, m110) ⟨hR'.mono hl110, hW2⟩ (.cons rfl (.nil _)) rfl rfl
                    refine .tSeq (.ld rfl rfl rfl rfl (?_))
                    refine .callM rfl rfl (dropCheck_walk hR hw hsm.st) rfl rfl fun u102 h102 m102 hl102 hu102 => ?_
                    obtain ⟨rfl, hR'⟩ := hu102
                    have hB := hl102 _ _ hB
                    haveI : ∀ L, At h102 L b5 (.cells ⟨stpV s tv⟩ 35 (0, 0)) := fun L => At.ofH hB
                    have hW' := hW.mono hl102
                    refine ?_
                    refine .callM rfl rfl (rfdropchk_walk hW') rfl rfl fun u110 h110 m110 hl110 hu110 => ?_
                    obtain ⟨rfl, hW2⟩ := hu110
                    refine .cmp rfl rfl rfl rfl (.as_ rfl rfl (.done (.thenN ?_)))
                    refine .tNil (.thenN ?_)
                    exact J.mid (h110, m102, m110) ⟨hR'.mono hl110, hW2⟩ (.cons rfl (.nil _)) rfl rfl
                  refine .tSeq (.ld rfl rfl rfl rfl (.done (.thenN ?_)))
                  refine .tBoth ?_ ?_
                  ·
                    refine .tSeq (.callM rfl rfl (dropCheck_walk hR hw hsm.st) rfl rfl fun u102 h102 m102 hl102 hu102 => ?_)
                    obtain ⟨rfl, hR'⟩ := hu102
                    have hB := hl102 _ _ hB
                    haveI : ∀ L, At h102 L b5 (.cells ⟨stpV s tv⟩ 35 (0, 0)) := fun L => At.ofH hB
                    have hW' := hW.mono hl102
                    refine .ld rfl rfl rfl rfl (?_)
                    refine .callM rfl rfl (rfdropchk_walk hW') rfl rfl fun u110 h110 m110 hl110 hu110 => ?_
                    obtain ⟨rfl, hW2⟩ := hu110
                    refine .cmp rfl rfl rfl rfl (.as_ rfl rfl (.done (.thenN ?_)))
                    refine .tNil (.thenN ?_)
                    exact J.mid (h110, m102, m110) ⟨hR'.mono hl110, hW2⟩ (.cons rfl (.nil _)) rfl rfl
                  refine .tSeq (.ld rfl rfl rfl rfl (?_))
                  refine .callM rfl rfl (dropCheck_walk hR hw hsm.st) rfl rfl fun u102 h102 m102 hl102 hu102 => ?_
                  obtain ⟨rfl, hR'⟩ := hu102
                  have hB := hl102 _ _ hB
                  haveI : ∀ L, At h102 L b5 (.cells ⟨stpV s tv⟩ 35 (0, 0)) := fun L => At.ofH hB
                  have hW' := hW.mono hl102
                  refine ?_
                  refine .callM rfl rfl (rfdropchk_walk hW') rfl rfl fun u110 h110 m110 hl110 hu110 => ?_
                  obtain ⟨rfl, hW2⟩ := hu110
                  refine .cmp rfl rfl rfl rfl (.as_ rfl rfl (.done (.thenN ?_)))
                  refine .tNil (.thenN ?_)
                  exact J.mid (h110, m102, m110) ⟨hR'.mono hl110, hW2⟩ (.cons rfl (.nil _)) rfl rfl
                refine .tBoth ?_ ?_
                ·
                  refine .tSeq (.ld rfl rfl rfl rfl (.done (.thenN ?_)))
                  refine .tBoth ?_ ?_
                  ·
                    refine .tSeq (.callM rfl rfl (dropCheck_walk hR hw hsm.st) rfl rfl fun u102 h102 m102 hl102 hu102 => ?_)
                    obtain ⟨rfl, hR'⟩ := hu102
                    have hB := hl102 _ _ hB
                    haveI : ∀ L, At h102 L b5 (.cells ⟨stpV s tv⟩ 35 (0, 0)) := fun L => At.ofH hB
                    have hW' := hW.mono hl102
                    refine .done (.thenN ?_)
                    refine .tBoth ?_ ?_
                    ·
                      refine .tSeq (.ld rfl rfl rfl rfl (.ld rfl rfl rfl rfl (?_)))
                      refine .callM rfl rfl (rfdropchk_walk hW') rfl rfl fun u110 h110 m110 hl110 hu110 => ?_
                      obtain ⟨rfl, hW2⟩ := hu110
                      refine .cmp rfl rfl rfl rfl (.as_ rfl rfl (.done (.thenN ?_)))
                      refine .tNil (.thenN ?_)
                      exact J.mid (h110, m102, m110) ⟨hR'.mono hl110, hW2⟩ (.cons rfl (.nil _)) rfl rfl
                    refine .tSeq (.ld rfl rfl rfl rfl (.ld rfl rfl rfl rfl (?_)))
                    refine .callM rfl rfl (rfdropchk_walk hW') rfl rfl fun u110 h110 m110 hl110 hu110 => ?_
                    obtain ⟨rfl, hW2⟩ := hu110
                    refine .cmp rfl rfl rfl rfl (.as_ rfl rfl (.done (.thenN ?_)))
                    refine .tNil (.thenN ?_)
                    exact J.mid (h110, m102, m110) ⟨hR'.mono hl110, hW2⟩ (.cons rfl (.nil _)) rfl rfl
                  refine .tBoth ?_ ?_
                  ·
                    refine .tSeq (.ld rfl rfl rfl rfl (.done (.thenN ?_)))
                    refine .tBoth ?_ ?_
                    ·
                      refine .tSeq (.callM rfl rfl (dropCheck_walk hR hw hsm.st) rfl rfl fun u102 h102 m102 hl102 hu102 => ?_)
                      obtain ⟨rfl, hR'⟩ := hu102
                      have hB := hl102 _ _ hB
                      haveI : ∀ L, At h102 L b5 (.cells ⟨stpV s tv⟩ 35 (0, 0)) := fun L => At.ofH hB
                      have hW' := hW.mono hl102
                      refine .ld rfl rfl rfl rfl (?_)
                      refine .callM rfl rfl (rfdropchk_walk hW') rfl rfl fun u110 h110 m110 hl110 hu110 => ?_
                      obtain ⟨rfl, hW2⟩ := hu110
                      refine .cmp rfl rfl rfl rfl (.as_ rfl rfl (.done (.thenN ?_)))
                      refine .tNil (.thenN ?_)
                      exact J.mid (h110, m102, m110) ⟨hR'.mono hl110, hW2⟩ (.cons rfl (.nil _)) rfl rfl
                    refine .tSeq (.ld rfl rfl rfl rfl (?_))
                    refine .callM rfl rfl (dropCheck_walk hR hw hsm.st) rfl rfl fun u102 h102 m102 hl102 hu102 => ?_
                    obtain ⟨rfl, hR'⟩ := hu102
                    have hB := hl102 _ _ hB
                    haveI : ∀ L, At h102 L b5 (.cells ⟨stpV s tv⟩ 35 (0, 0)) := fun L => At.ofH hB
                    have hW' := hW.mono hl102
                    refine ?_
                    refine .callM rfl rfl (rfdropchk_walk hW') rfl rfl fun u110 h110 m110 hl110 hu110 => ?_
                    obtain ⟨rfl, hW2⟩ := hu110
                    refine .cmp rfl rfl rfl rfl (.as_ rfl rfl (.done (.thenN ?_)))
                    refine .tNil (.thenN ?_)
                    exact J.mid (h110, m102, m110) ⟨hR'.mono hl110, hW2⟩ (.cons rfl (.nil _)) rfl rfl
                  refine .tSeq (.ld rfl rfl rfl rfl (.done (.thenN ?_)))
                  refine .tBoth ?_ ?_
                  ·
                    refine .tSeq (.callM rfl rfl (dropCheck_walk hR hw hsm.st) rfl rfl fun u102 h102 m102 hl102 hu102 => ?_)
                    obtain ⟨rfl, hR'⟩ := hu102
                    have hB := hl102 _ _ hB
                    haveI : ∀ L, At h102 L b5 (.cells ⟨stpV s tv⟩ 35 (0, 0)) := fun L => At.ofH hB
                    have hW' := hW.mono hl102
                    refine .ld rfl rfl rfl rfl (?_)
                    refine .callM rfl rfl (rfdropchk_walk hW') rfl rfl fun u110 h110 m110 hl110 hu110 => ?_
                    obtain ⟨rfl, hW2⟩ := hu110
                    refine .cmp rfl rfl rfl rfl (.as_ rfl rfl (.done (.thenN ?_)))
                    refine .tNil (.thenN ?_)
                    exact J.mid (h110, m102, m110) ⟨hR'.mono hl110, hW2⟩ (.cons rfl (.nil _)) rfl rfl
                  refine .tSeq (.ld rfl rfl rfl rfl (?_))
                  refine .callM rfl rfl (dropCheck_walk hR hw hsm.st) rfl rfl fun u102 h102 m102 hl102 hu102 => ?_
                  obtain ⟨rfl, hR'⟩ := hu102
                  have hB := hl102 _ _ hB
                  haveI : ∀ L, At h102 L b5 (.cells ⟨stpV s tv⟩ 35 (0, 0)) := fun L => At.ofH hB
                  have hW' := hW.mono hl102
                  refine ?_
                  refine .callM rfl rfl (rfdropchk_walk hW') rfl rfl fun u110 h110 m110 hl110 hu110 => ?_
                  obtain ⟨rfl, hW2⟩ := hu110
                  refine .cmp rfl rfl rfl rfl (.as_ rfl rfl (.done (.thenN ?_)))
                  refine .tNil (.thenN ?_)
                  exact J.mid (h110, m102, m110) ⟨hR'.mono hl110, hW2⟩ (.cons rfl (.nil _)) rfl rfl
                refine .tSeq (.ld rfl rfl rfl rfl (.done (.thenN ?_)))
                refine .tBoth ?_ ?_
                ·
                  refine .tSeq (.callM rfl rfl (dropCheck_walk hR hw hsm.st) rfl rfl fun u102 h102 m102 hl102 hu102 => ?_)
                  obtain ⟨rfl, hR'⟩ := hu102
                  have hB := hl102 _ _ hB
                  haveI : ∀ L, At h102 L b5 (.cells ⟨stpV s tv⟩ 35 (0, 0)) := fun L => At.ofH hB
                  have hW' := hW.mono hl102
                  refine .done (.thenN ?_)
                  refine .tBoth ?_ ?_
                  ·
                    refine .tSeq (.ld rfl rfl rfl rfl (.ld rfl rfl rfl rfl (?_)))
                    refine .callM rfl rfl (rfdropchk_walk hW') rfl rfl fun u110 h110 m110 hl110 hu110 => ?_
                    obtain ⟨rfl, hW2⟩ := hu110
                    refine .cmp rfl rfl rfl rfl (.as_ rfl rfl (.done (.thenN ?_)))
                    refine .tNil (.thenN ?_)
                    exact J.mid (h110, m102, m110) ⟨hR'.mono hl110, hW2⟩ (.cons rfl (.nil _)) rfl rfl
                  refine .tSeq (.ld rfl rfl rfl rfl (.ld rfl rfl rfl rfl (?_)))
                  refine .callM rfl rfl (rfdropchk_walk hW') rfl rfl fun u110 h110 m110 hl110 hu110 => ?_
                  obtain ⟨rfl, hW2⟩ := hu110
                  refine .cmp rfl rfl rfl rfl (.as_ rfl rfl (.done (.thenN ?_)))
                  refine .tNil (.thenN ?_)
                  exact J.mid (h110, m102, m110) ⟨hR'.mono hl110, hW2⟩ (.cons rfl (.nil _)) rfl rfl
                refine .tBoth ?_ ?_
                ·
                  refine .tSeq (.ld rfl rfl rfl rfl (.done (.thenN ?_)))
                  refine .tBoth ?_ ?_
                  ·
                    refine .tSeq (.callM rfl rfl (dropCheck_walk hR hw hsm.st) rfl rfl fun u102 h102 m102 hl102 hu102 => ?_)
                    obtain ⟨rfl, hR'⟩ := hu102
                    have hB := hl102 _ _ hB
                    haveI : ∀ L, At h102 L b5 (.cells ⟨stpV s tv⟩ 35 (0, 0)) := fun L => At.ofH hB
                    have hW' := hW.mono hl102
                    refine .ld rfl rfl rfl rfl (?_)
                    refine .callM rfl rfl (rfdropchk_walk hW') rfl rfl fun u110 h110 m110 hl110 hu110 => ?_
                    obtain ⟨rfl, hW2⟩ := hu110
                    refine .cmp rfl rfl rfl rfl (.as_ rfl rfl (.done (.thenN ?_)))
                    refine .tNil (.thenN ?_)
                    exact J.mid (h110, m102, m110) ⟨hR'.mono hl110, hW2⟩ (.cons rfl (.nil _)) rfl rfl
                  refine .tSeq (.ld rfl rfl rfl rfl (?_))
                  refine .callM rfl rfl (dropCheck_walk hR hw hsm.st) rfl rfl fun u102 h102 m102 hl102 hu102 => ?_
                  obtain ⟨rfl, hR'⟩ := hu102
                  have hB := hl102 _ _ hB
                  haveI : ∀ L, At h102 L b5 (.cells ⟨stpV s tv⟩ 35 (0, 0)) := fun L => At.ofH hB
                  have hW' := hW.mono hl102
                  refine ?_
                  refine .callM rfl rfl (rfdropchk_walk hW') rfl rfl fun u110 h110 m110 hl110 hu110 => ?_
                  obtain ⟨rfl, hW2⟩ := hu110
                  refine .cmp rfl rfl rfl rfl (.as_ rfl rfl (.done (.thenN ?_)))
                  refine .tNil (.thenN ?_)
                  exact J.mid (h110, m102, m110) ⟨hR'.mono hl110, hW2⟩ (.cons rfl (.nil _)) rfl rfl
                refine .tSeq (.ld rfl rfl rfl rfl (.done (.thenN ?_)))
                refine .tBoth ?_ ?_
                ·
                  refine .tSeq (.callM rfl rfl (dropCheck_walk hR hw hsm.st) rfl rfl fun u102 h102 m102 hl102 hu102 => ?_)
                  obtain ⟨rfl, hR'⟩ := hu102
                  have hB := hl102 _ _ hB
                  haveI : ∀ L, At h102 L b5 (.cells ⟨stpV s tv⟩ 35 (0, 0)) := fun L => At.ofH hB
                  have hW' := hW.mono hl102
                  refine .ld rfl rfl rfl rfl (?_)
                  refine .callM rfl rfl (rfdropchk_walk hW') rfl rfl fun u110 h110 m110 hl110 hu110 => ?_
                  obtain ⟨rfl, hW2⟩ := hu110
                  refine .cmp rfl rfl rfl rfl (.as_ rfl rfl (.done (.thenN ?_)))
                  refine .tNil (.thenN ?_)
                  exact J.mid (h110, m102, m110) ⟨hR'.mono hl110, hW2⟩ (.cons rfl (.nil _)) rfl rfl
                refine .tSeq (.ld rfl rfl rfl rfl (?_))
                refine .callM rfl rfl (dropCheck_walk hR hw hsm.st) rfl rfl fun u102 h102 m102 hl102 hu102 => ?_
                obtain ⟨rfl, hR'⟩ := hu102
                have hB := hl102 _ _ hB
                haveI : ∀ L, At h102 L b5 (.cells ⟨stpV s tv⟩ 35 (0, 0)) := fun L => At.ofH hB
                have hW' := hW.mono hl102
                refine ?_
                refine .callM rfl rfl (rfdropchk_walk hW') rfl rfl fun u110 h110 m110 hl110 hu110 => ?_
                obtain ⟨rfl, hW2⟩ := hu110
                refine .cmp rfl rfl rfl rfl (.as_ rfl rfl (.done (.thenN ?_)))
                refine .tNil (.thenN ?_)
                exact J.mid (h110, m102, m110) ⟨hR'.mono hl110, hW2⟩ (.cons rfl (.nil _)) rfl rfl
              ·
                rintro ⟨h9, m9, mw9⟩ ⟨hR', hW2⟩
                refine .ret (.blkR (.thenR ?_))
                exact J.retTmp rfl (List.Sublist.refl _) ⟨_, _, rfl, by rw [stepB, if_neg (ifn hb2), if_neg (ifn hb4), if_neg (ifn hb6), if_neg (ifn hb8), if_neg (ifn hb10), if_pos hb12]; rfl, by rw [stepR, if_neg (ifn hb2), if_neg (ifn hb4), if_neg (ifn hb6), if_neg (ifn hb8), if_neg (ifn hb10), if_pos hb12]; exact hR', by rw [stepW, if_neg (ifn hb2), if_neg (ifn hb4), if_neg (ifn hb6), if_neg (ifn hb8), if_neg (ifn hb10), if_pos hb12]; exact hW2⟩
            ·
              refine .seq (.text (.cmp rfl rfl rfl rfl (.as_ rfl rfl (.done (.thenN ?_)))))
              refine .cond rfl (fun hb14 => ?_) (fun hb14 => ?_)
              ·
                refine .seq (.text (.mv rfl rfl (?_)))
                refine .call (ms := [m]) rfl rfl (rcopy_walk hR hw) rfl rfl fun u115 h115 ms115 hl115 hu115 => ?_
                obtain ⟨mc, rfl, hlc, rp', rfl, hC⟩ := hu115
                simp only [List.cons_append, List.nil_append]
                have hB := hl115 _ _ hB
                haveI : ∀ L, At h115 L b5 (.cells ⟨stpV s tv⟩ 35 (0, 0)) := fun L => At.ofH hB
                refine .as_ rfl rfl (.done (.thenN ?_))
                refine .seq (.seq (.text (.mv rfl rfl (.mv rfl rfl (?_)))))
                refine J.front 2 rfl (J.front 1 rfl ?_)
                refine .call (ms := [mc, mw]) rfl rfl (sameG_walk hC hw (hW.mono hl115)) rfl rfl fun u118 h118 ms118 hl118 hu118 => ?_
                obtain ⟨rfl, e118, rfl⟩ := hu118
                have e118 := e118.symm
                subst e118
                simp only [List.cons_append, List.nil_append]
                refine .not rfl rfl (.done (.thenN ?_))
                refine .cond rfl (fun hb16 => ?_) (fun hb16 => ?_)
                ·
                  refine .seq (.text (.as_ rfl rfl (.done (.thenN ?_))))
                  refine .ret (.thenR (.blkR (.thenR ?_)))
                  refine J.front 2 rfl (J.front 1 rfl (J.dropF 1 ?_))
                  exact J.retTmp rfl (List.Sublist.refl _) ⟨_, _, rfl, by rw [stepB, if_neg (ifn hb2), if_neg (ifn hb4), if_neg (ifn hb6), if_neg (ifn hb8), if_neg (ifn hb10), if_neg (ifn hb12), if_pos hb14]; rw [show rosSame R W = false from by simpa using hb16]; rfl, by rw [stepR, if_neg (ifn hb2), if_neg (ifn hb4), if_neg (ifn hb6), if_neg (ifn hb8), if_neg (ifn hb10), if_neg (ifn hb12)]; exact hR.mono hl115, by rw [stepW, if_neg (ifn hb2), if_neg (ifn hb4), if_neg (ifn hb6), if_neg (ifn hb8), if_neg (ifn hb10), if_neg (ifn hb12)]; exact hW.mono hl115⟩
                ·
                  refine .skip (.thenN ?_)
                  refine .seq (.text (.mv rfl rfl (.fa rfl rfl (.ld rfl rfl rfl rfl (?_)))))
                  refine .callM rfl rfl (dropNode_walk hC hw) rfl rfl fun u123 h123 m123 hl123 hu123 => ?_
                  obtain ⟨rfl, hC2⟩ := hu123
                  have hB := hl123 _ _ hB
                  haveI : ∀ L, At h123 L b5 (.cells ⟨stpV s tv⟩ 35 (0, 0)) := fun L => At.ofH hB
                  refine .done (.thenN ?_)
                  refine .text (.mv rfl rfl (.fa rfl rfl (.ld rfl rfl rfl rfl (.fa rfl rfl (.ld rfl rfl rfl rfl (?_))))))
                  refine .callM rfl rfl (node_walk hC2 (dropNodeR_wf hw)) rfl rfl fun u129 h129 m129 hl129 hu129 => ?_
                  obtain ⟨e129, rfl, hC3⟩ := hu129
                  have e129 := e129.symm
                  subst e129
                  refine .done (.blkN (.thenN ?_))
                  refine .seq (.text (.as_ rfl rfl (.done (.thenN ?_))))
                  refine .ret ?_
                  refine J.front 2 rfl (J.front 1 rfl (J.dropF 1 ?_))
                  exact J.retTmp rfl (List.Sublist.refl _) ⟨_, _, rfl, by rw [stepB, if_neg (ifn hb2), if_neg (ifn hb4), if_neg (ifn hb6), if_neg (ifn hb8), if_neg (ifn hb10), if_neg (ifn hb12), if_pos hb14]; rw [show rosSame R W = true from by simpa using hb16]; rfl, by rw [stepR, if_neg (ifn hb2), if_neg (ifn hb4), if_neg (ifn hb6), if_neg (ifn hb8), if_neg (ifn hb10), if_neg (ifn hb12)]; exact hR.mono (Hp.le_trans hl115 hl123), by rw [stepW, if_neg (ifn hb2), if_neg (ifn hb4), if_neg (ifn hb6), if_neg (ifn hb8), if_neg (ifn hb10), if_neg (ifn hb12)]; exact hW.mono (Hp.le_trans hl115 hl123)⟩
              ·
                refine .skip (.blkN (.thenN ?_))
                refine .seq (.text (.as_ rfl rfl (.done (.thenN ?_))))
                refine .ret ?_
                exact J.retTmp rfl (List.Sublist.refl _) ⟨_, _, rfl, by rw [stepB, if_neg (ifn hb2), if_neg (ifn hb4), if_neg (ifn hb6), if_neg (ifn hb8), if_neg (ifn hb10), if_neg (ifn hb12), if_neg (ifn hb14)]; rfl, by rw [stepR, if_neg (ifn hb2), if_neg (ifn hb4), if_neg (ifn hb6), if_neg (ifn hb8), if_neg (ifn hb10), if_neg (ifn hb12)]; exact hR.mono (Hp.le_refl _), by rw [stepW, if_neg (ifn hb2), if_neg (ifn hb4), if_neg (ifn hb6), if_neg (ifn hb8), if_neg (ifn hb10), if_neg (ifn hb12)]; exact hW.mono (Hp.le_refl _)⟩
end Go.Sod
