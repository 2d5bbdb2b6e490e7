/-
  Load, walked. Conditions: none.
-/
import Derived.Test.YtemcklmfpapmpaaGreatL1
namespace Go.Sod
set_option linter.unusedVariables false
set_option linter.unusedSimpArgs false
set_option maxRecDepth 10000
set_option maxHeartbeats 4000000

def loadK3 (l0 l1 l2 : Int) : Option Ld → Option Rst
  | none => none
  | some L3 => if L3.2.2 = true then none else some { L3.1 with l0 := max L3.1.l0 l0, l1 := max L3.1.l1 l1, l2 := max L3.1.l2 l2 }
def loadK2 (cs : List Chk) (l0 l1 l2 : Int) : Option Ld → Option Rst
  | none => none
  | some L2 => loadK3 l0 l1 l2 (ldGo stgC l2 cs (L2.1, ⟨#[]⟩, L2.2.2))
def loadK1 (ss : List Svc) (cs : List Chk) (l0 l1 l2 : Int) : Option Ld → Option Rst
  | none => none
  | some L1 => loadK2 cs l0 l1 l2 (ldGo stgS l1 ss (L1.1, ⟨#[]⟩, L1.2.2))
theorem loadP_eq {most : Int} {ns : List Nod} {ss : List Svc} {cs : List Chk} {l0 l1 l2 : Int} : loadP most ns ss cs l0 l1 l2 = loadK1 ss cs l0 l1 l2 (ldGo stgN l0 ns (rst0 (min (max most 1) 64), ⟨#[]⟩, false)) := by
  unfold loadP loadK1
  cases ldGo stgN l0 ns (rst0 (min (max most 1) 64), ⟨#[]⟩, false) with
  | none => rfl
  | some L1 =>
    dsimp only
    unfold loadK2
    cases ldGo stgS l1 ss (L1.1, ⟨#[]⟩, L1.2.2) with
    | none => rfl
    | some L2 =>
      dsimp only
      unfold loadK3
      cases ldGo stgC l2 cs (L2.1, ⟨#[]⟩, L2.2.2) <;> rfl
theorem ldStep_eq {α : Type} (S : Stg α) (last : Int) (L : Ld) (x : α) : ldStep S last L x = (if ldBad S last L x = true then L.1 else ldTwo (S.E · x) (S.N · x ·) L.1 (S.made x) (S.ix x), if ldBad S last L x = true then L.2.1 else S.kf x, if ldBad S last L x = true then true else ldWr (S.E · x) (S.N · x ·) L.1 (S.made x)) := by
  unfold ldStep
  split <;> rfl
theorem ldGo_at {α : Type} {S : Stg α} {last : Int} {xs : List α} {k : Nat} {L : Ld} (hk : k < xs.length) : ldGo S last (xs.drop k) L = if (!S.right xs[k]) = true then none else ldGo S last (xs.drop (k + 1)) (ldStep S last L xs[k]) := by
  rw [List.drop_eq_getElem_cons hk]; rfl
theorem ldTwo_wf {E : Rst → Int} {N : Rst → Int → Rst} (hN : ∀ R i, RWf R → RWf (N R i)) {R : Rst} {made ix : Int} (h : RWf R) : RWf (ldTwo E N R made ix) := by
  unfold ldTwo
  split
  · exact hN _ _ h
  · exact hN _ _ (hN _ _ h)
def loadRes (o : Option Rst) (v : Value) (h : Hp) (ms : List Hp) : Prop := match o with
  | none => v = .tuple ⟨[.pointer none, .int .i64 2]⟩ ∧ ms = []
  | some R => ∃ rp m, v = .tuple ⟨[.pointer (some ⟨rp, 0, none⟩), .int .i64 0]⟩ ∧ ms = [m] ∧ Ro m h rp R

theorem load_walk {h : Hp} {most : Int} {nv sv cv : Value} {ns : List Nod} {ss : List Svc} {cs : List Chk} {l0 l1 l2 : Int} (hn : SlR h 4 RNod nv ns) (hs : SlR h 7 RSvc sv ss) (hc : SlR h 7 RChk cv cs) (hsm : ∀ s, s ∈ ss → SvcSm s) (hcm : ∀ c, c ∈ cs → ChkSm c) : FS Go.Proofs.Tryz.prog 20 [.int .i64 most, nv, sv, cv, .agg ⟨[.int .u64 l0, .int .u64 l1, .int .u64 l2]⟩] h [] (loadRes (loadP most ns ss cs l0 l1 l2)) := by
  refine FS.enter Go.Proofs.Tryz.func20 rfl rfl fun w0 => ?_
  refine .seq (.text (.box (cs := [_, _, _]) rfl rfl rfl rfl fun b9 => .as_ rfl rfl (.as_ rfl rfl (.done (.thenN ?_)))))
  refine J.cut (ι := Nat × Nat × Nat × Hp × Hp) (fun i => h.le i.2.2.2.2 ∧ Ro i.2.2.2.1 i.2.2.2.2 i.2.2.1 (rst0 (min (max most 1) 64))) (fun i => [(1, nv), (2, sv), (3, cv), (9, .pointer (some ⟨b9, 0, none⟩)), (12, .pointer (some ⟨i.2.1, 0, none⟩))]) (fun i => i.2.2.2.2) (fun i => [one i.1 (.cells ⟨ldV i.2.2.1 l0 l1 l2 ⟨#[]⟩ ⟨#[]⟩ ⟨#[]⟩ false⟩ 103 (0, 0)), i.2.2.2.1, one i.2.1 (.cells ⟨[.pointer (some ⟨i.1, 0, none⟩)]⟩ 100 (0, 0)), one b9 (.cells ⟨[.int .u64 l0, .int .u64 l1, .int .u64 l2]⟩ 57 (0, 0))]) ?_ ?_
  ·
    refine .tree2 (.seq [(0, .pure), (2, .read)] (.both (.seq [(1, .grow), (3, .pure)] (.both (.seq [(4, .grow), (5, .grow), (6, .mut)] .nil) (.seq [(5, .grow), (4, .grow), (6, .mut)] .nil))) (.seq [(5, .grow), (1, .grow), (3, .pure), (4, .grow), (6, .mut)] .nil))) [124, 0, 51, 97, 0, 0, 0] [0, 1, 0, 6, 8, 0, 63] [90, 88, 88, 80, 64, 64, 0] [.pure, .grow, .read, .pure, .grow, .grow, .mut] rfl (by kernel_rfl) (by kernel_rfl) ?_
    refine .tSeq (.mv rfl rfl (.ldW rfl rfl rfl rfl (.done (.thenN ?_))))
    refine .tBoth ?_ ?_
    ·
      refine .tSeq (.call0 rfl rfl rnew_walk rfl rfl fun u20 h20 ms20 hl20 hu20 => ?_)
      obtain ⟨_, rp, m, rfl, rfl, hR⟩ := hu20
      simp only [List.singleton_append]
      refine .bld [_, _, _, _, _, _, _, _] rfl (by rfl) rfl ?_
      refine .done (.thenN ?_)
      refine .tBoth ?_ ?_
      ·
        refine .tSeq (.box (cs := [_, _, _, _, _, _, _, _]) rfl rfl rfl rfl fun b23 => .alloc (cs := [_]) rfl rfl rfl fun b12 => .stS rfl rfl rfl rfl (.done (.thenN ?_)))
        refine .tNil (.thenN ?_)
        first | exact J.mid (b23, b12, rp, m, h20) ⟨hl20, hR⟩ (.cons rfl (.cons rfl (.cons rfl (.cons rfl (.cons rfl (.nil _)))))) rfl rfl | exact J.front 2 rfl (J.front 1 rfl (J.mid (b23, b12, rp, m, h20) ⟨hl20, hR⟩ (.cons rfl (.cons rfl (.cons rfl (.cons rfl (.cons rfl (.nil _)))))) rfl rfl)) | exact J.front 1 rfl (J.front 2 rfl (J.front 1 rfl (J.mid (b23, b12, rp, m, h20) ⟨hl20, hR⟩ (.cons rfl (.cons rfl (.cons rfl (.cons rfl (.cons rfl (.nil _)))))) rfl rfl)))
      refine .tSeq (.alloc (cs := [_]) rfl rfl rfl fun b12 => .box (cs := [_, _, _, _, _, _, _, _]) rfl rfl rfl rfl fun b23 => .stS rfl rfl rfl rfl (.done (.thenN ?_)))
      refine .tNil (.thenN ?_)
      first | exact J.mid (b23, b12, rp, m, h20) ⟨hl20, hR⟩ (.cons rfl (.cons rfl (.cons rfl (.cons rfl (.cons rfl (.nil _)))))) rfl rfl | exact J.front 2 rfl (J.front 1 rfl (J.mid (b23, b12, rp, m, h20) ⟨hl20, hR⟩ (.cons rfl (.cons rfl (.cons rfl (.cons rfl (.cons rfl (.nil _)))))) rfl rfl)) | exact J.front 1 rfl (J.front 2 rfl (J.front 1 rfl (J.mid (b23, b12, rp, m, h20) ⟨hl20, hR⟩ (.cons rfl (.cons rfl (.cons rfl (.cons rfl (.cons rfl (.nil _)))))) rfl rfl)))
    refine .tSeq (.alloc (cs := [_]) rfl rfl rfl fun b12 => ?_)
    refine .call0 rfl rfl rnew_walk rfl rfl fun u20 h20 ms20 hl20 hu20 => ?_
    obtain ⟨_, rp, m, rfl, rfl, hR⟩ := hu20
    simp only [List.singleton_append]
    refine .bld [_, _, _, _, _, _, _, _] rfl (by rfl) rfl ?_
    refine .box (cs := [_, _, _, _, _, _, _, _]) rfl rfl rfl rfl fun b23 => .stS rfl rfl rfl rfl (.done (.thenN ?_))
    refine .tNil (.thenN ?_)
    first | exact J.mid (b23, b12, rp, m, h20) ⟨hl20, hR⟩ (.cons rfl (.cons rfl (.cons rfl (.cons rfl (.cons rfl (.nil _)))))) rfl rfl | exact J.front 2 rfl (J.front 1 rfl (J.mid (b23, b12, rp, m, h20) ⟨hl20, hR⟩ (.cons rfl (.cons rfl (.cons rfl (.cons rfl (.cons rfl (.nil _)))))) rfl rfl)) | exact J.front 1 rfl (J.front 2 rfl (J.front 1 rfl (J.mid (b23, b12, rp, m, h20) ⟨hl20, hR⟩ (.cons rfl (.cons rfl (.cons rfl (.cons rfl (.cons rfl (.nil _)))))) rfl rfl)))
  ·
    rintro ⟨lb, b12, rp, m, h1⟩ ⟨hl1, hR⟩
    dsimp only at hl1 hR ⊢
    refine .seq (.seq (.text (.mv rfl rfl (.len (hn.mono RNod.mono hl1) rfl rfl rfl (.mv rfl rfl (.done (.thenN ?_)))))))
    refine .block (?_)
    refine J.loop (ι := Nat × Rst × ByteArray × Bool × Hp × Hp) (fun i => i.1 ≤ ns.length ∧ h.le i.2.2.2.2.2 ∧ Ro i.2.2.2.2.1 i.2.2.2.2.2 rp i.2.1 ∧ RWf i.2.1 ∧ loadP most ns ss cs l0 l1 l2 = loadK1 ss cs l0 l1 l2 (ldGo stgN l0 (ns.drop i.1) (i.2.1, i.2.2.1, i.2.2.2.1))) (fun i => [(2, sv), (3, cv), (9, .pointer (some ⟨b9, 0, none⟩)), (12, .pointer (some ⟨b12, 0, none⟩)), (24, nv), (25, .int .i64 (ns.length : Int)), (26, .int .i64 (i.1 : Int))]) (fun i => i.2.2.2.2.2) (fun i => [one lb (.cells ⟨ldV rp l0 l1 l2 i.2.2.1 ⟨#[]⟩ ⟨#[]⟩ i.2.2.2.1⟩ 103 (0, 0)), i.2.2.2.2.1, one b12 (.cells ⟨[.pointer (some ⟨lb, 0, none⟩)]⟩ 100 (0, 0)), one b9 (.cells ⟨[.int .u64 l0, .int .u64 l1, .int .u64 l2]⟩ 57 (0, 0))]) (fun i => ns.length - i.1) (0, rst0 (min (max most 1) 64), (⟨#[]⟩ : ByteArray), false, m, h1) ⟨by simp, hl1, hR, rst0_wf (by omega) (by omega), loadP_eq⟩ (.cons rfl (.cons rfl (.cons rfl (.cons rfl (.cons rfl (.cons rfl (.cons rfl (.nil _)))))))) rfl rfl ?_
    rintro ⟨k, R, key, wr, m, h1⟩ ⟨hk0, hl1, hR, hwf, hinv⟩
    dsimp only at hk0 hl1 hR hwf hinv ⊢
    have hx := hn.mono RNod.mono hl1
    refine .seq (.text (.cmp rfl rfl rfl rfl (.done (.thenN ?_))))
    refine .seq (.cond rfl (fun hb3 => ?_) (fun hb3 => ?_))
    ·
      have hk : k < ns.length := by simp [cmpI] at hb3; omega
      rw [ldGo_at hk] at hinv
      refine .skip (.thenN ?_)
      refine .seq (.block (.seq (.text (.ix (i := k) hx rfl rfl rfl hk rfl (.ldE hx hk rfl rfl rfl fun vs hvs => ?_)))))
      obtain rfl := hvs
      refine .alloc (cs := [_, _, _, _]) rfl rfl rfl fun b14 => .stW rfl rfl rfl rfl rfl rfl (.done (.thenN ?_))
      refine .seq (.seq (.text (.fa rfl rfl (.ld rfl rfl rfl rfl (?_)))))
      refine .callV rfl rfl right_walk rfl rfl (.not rfl rfl (.done (.thenN ?_)))
      refine .cond rfl (fun hb5 => ?_) (fun hb5 => ?_)
      ·
        have hr : (!rightN ns[k].node) = true := hb5
        refine .seq (.text (.as_ rfl rfl (.as_ rfl rfl (.done (.thenN ?_)))))
        refine .ret (.thenR (.blkR (.thenR (.thenR (.blkR (.thenR ?_))))))
        refine J.retTmp rfl (List.nil_sublist _) ?_
        rw [hinv, if_pos (show (!stgN.right ns[k]) = true from hr)]
        exact ⟨rfl, rfl⟩
      ·
        have hr : (!rightN ns[k].node) = false := hb5
        have hr1 : rightN ns[k].node = true := by simpa using hr
        rw [if_neg (ifn (show (!stgN.right ns[k]) = false from hr)), ldStep_eq] at hinv
        refine .skip (.thenN ?_)
        refine .draw [(0, .read), (1, .pure), (2, .read), (4, .pure), (5, .read), (6, .pure), (7, .read), (8, .pure), (3, .grow), (9, .mut)] rfl (by kernel_rfl) (.ld rfl rfl rfl rfl (.fa rfl rfl (.ld rfl rfl rfl rfl (.fa rfl rfl (.ld rfl rfl rfl rfl (.fa rfl rfl (.ld rfl rfl rfl rfl (.mkF rfl rfl rfl (?_)))))))))
        refine .callV rfl rfl (digit_walk hr1) rfl rfl (?_)
        refine J.front 1 rfl (J.front 2 rfl (J.front 1 rfl ?_))
        refine .callA rfl rfl (one0_walk (wr := wr) hR hwf (layNod_walk (x := ns[k])) (fun R i w => nodeR_wf w)) rfl rfl fun u2 h2 L2 hl2 hu2 => ?_
        obtain ⟨rfl, m2, rfl, hR2⟩ := hu2
        refine .done (.blkN (.thenN ?_))
        refine .text (.inc rfl rfl (by have := hx.len; unfold maxL at this; omega) rfl (.mv rfl rfl (.done (.thenN ?_))))
        refine J.front 2 rfl (J.dropF 1 (J.again (k + 1, (if ldBad stgN l0 (R, key, wr) ns[k] = true then R else ldTwo (stgN.E · ns[k]) (stgN.N · ns[k] ·) R (stgN.made ns[k]) (stgN.ix ns[k])), (if ldBad stgN l0 (R, key, wr) ns[k] = true then key else stgN.kf ns[k]), (if ldBad stgN l0 (R, key, wr) ns[k] = true then true else ldWr (stgN.E · ns[k]) (stgN.N · ns[k] ·) R (stgN.made ns[k])), m2, h2) (by dsimp only; omega) ⟨hk, Hp.le_trans hl1 hl2, hR2, ?_, hinv⟩ (.cons rfl (.cons rfl (.cons rfl (.cons rfl (.cons rfl (.cons rfl (.cons rfl (.nil _)))))))) rfl rfl))
        dsimp only; split
        · exact hwf
        · exact ldTwo_wf (fun R i w => nodeR_wf w) hwf
    ·
      have hk : k = ns.length := by simp [cmpI] at hb3; omega
      subst hk
      rw [List.drop_length] at hinv
      replace hinv : loadP most ns ss cs l0 l1 l2 = loadK2 cs l0 l1 l2 (ldGo stgS l1 (ss.drop 0) (R, ⟨#[]⟩, wr)) := hinv
      generalize key = k0
      refine .exit (.thenE (.thenE (.blkHit (.thenN ?_))))
      refine .seq (.seq (.text (.mv rfl rfl (.len (hs.mono RSvc.mono hl1) rfl rfl rfl (.mv rfl rfl (.done (.thenN ?_)))))))
      refine .block (?_)
      refine J.loop (ι := Nat × Rst × ByteArray × Bool × Hp × Hp) (fun i => i.1 ≤ ss.length ∧ h.le i.2.2.2.2.2 ∧ Ro i.2.2.2.2.1 i.2.2.2.2.2 rp i.2.1 ∧ RWf i.2.1 ∧ loadP most ns ss cs l0 l1 l2 = loadK2 cs l0 l1 l2 (ldGo stgS l1 (ss.drop i.1) (i.2.1, i.2.2.1, i.2.2.2.1))) (fun i => [(3, cv), (9, .pointer (some ⟨b9, 0, none⟩)), (12, .pointer (some ⟨b12, 0, none⟩)), (45, sv), (46, .int .i64 (ss.length : Int)), (47, .int .i64 (i.1 : Int))]) (fun i => i.2.2.2.2.2) (fun i => [one lb (.cells ⟨ldV rp l0 l1 l2 k0 i.2.2.1 ⟨#[]⟩ i.2.2.2.1⟩ 103 (0, 0)), i.2.2.2.2.1, one b12 (.cells ⟨[.pointer (some ⟨lb, 0, none⟩)]⟩ 100 (0, 0)), one b9 (.cells ⟨[.int .u64 l0, .int .u64 l1, .int .u64 l2]⟩ 57 (0, 0))]) (fun i => ss.length - i.1) (0, R, (⟨#[]⟩ : ByteArray), wr, m, h1) ⟨by simp, hl1, hR, hwf, hinv⟩ (.cons rfl (.cons rfl (.cons rfl (.cons rfl (.cons rfl (.cons rfl (.nil _))))))) rfl rfl ?_
      rintro ⟨k, R, key, wr, m, h1⟩ ⟨hk0, hl1, hR, hwf, hinv⟩
      dsimp only at hk0 hl1 hR hwf hinv ⊢
      have hx := hs.mono RSvc.mono hl1
      refine .seq (.text (.cmp rfl rfl rfl rfl (.done (.thenN ?_))))
      refine .seq (.cond rfl (fun hb10 => ?_) (fun hb10 => ?_))
      ·
        have hk : k < ss.length := by simp [cmpI] at hb10; omega
        rw [ldGo_at hk] at hinv
        refine .skip (.thenN ?_)
        refine .seq (.block (.seq (.text (.ix (i := k) hx rfl rfl rfl hk rfl (.ldE hx hk rfl rfl rfl fun vs hvs => ?_)))))
        obtain ⟨tv, rfl, htv⟩ := hvs
        obtain ⟨tA, tc, rfl⟩ := htv.form
        refine .alloc (cs := [_, _, _, _, _, _, _]) rfl rfl rfl fun b16 => .stW rfl rfl rfl rfl rfl rfl (.done (.thenN ?_))
        refine .seq (.seq (.text (.fa rfl rfl (.ld rfl rfl rfl rfl (?_)))))
        refine .callV rfl rfl right_walk rfl rfl (.not rfl rfl (.done (.thenN ?_)))
        refine .cond rfl (fun hb12 => ?_) (fun hb12 => ?_)
        ·
          have hr : (!rightN ss[k].node) = true := hb12
          refine .seq (.text (.as_ rfl rfl (.as_ rfl rfl (.done (.thenN ?_)))))
          refine .ret (.thenR (.blkR (.thenR (.thenR (.blkR (.thenR ?_))))))
          refine J.retTmp rfl (List.nil_sublist _) ?_
          rw [hinv, if_pos (show (!stgS.right ss[k]) = true from hr)]
          exact ⟨rfl, rfl⟩
        ·
          have hr : (!rightN ss[k].node) = false := hb12
          have hr1 : rightN ss[k].node = true := by simpa using hr
          rw [if_neg (ifn (show (!stgS.right ss[k]) = false from hr)), ldStep_eq] at hinv
          refine .skip (.thenN ?_)
          refine .draw [(0, .read), (1, .pure), (2, .read), (3, .pure), (4, .read), (6, .pure), (7, .read), (8, .pure), (9, .read), (10, .pure), (5, .grow), (11, .mut)] rfl (by kernel_rfl) (.ld rfl rfl rfl rfl (.fa rfl rfl (.ld rfl rfl rfl rfl (.fa rfl rfl (.ld rfl rfl rfl rfl (.fa rfl rfl (.ld rfl rfl rfl rfl (.fa rfl rfl (.ld rfl rfl rfl rfl (.mkF rfl rfl rfl (?_)))))))))))
          refine .callV rfl rfl (key_walk hr1 (hsm _ (List.getElem_mem hk)).id) rfl rfl (?_)
          refine J.front 1 rfl (J.front 2 rfl (J.front 1 rfl ?_))
          refine .callA rfl rfl (one1_walk (wr := wr) hR hwf (laySvc_walk (x := ss[k]) htv (hsm _ (List.getElem_mem hk))) (fun R i w => svcR_wf w)) rfl rfl fun u2 h2 L2 hl2 hu2 => ?_
          obtain ⟨rfl, m2, rfl, hR2⟩ := hu2
          refine .done (.blkN (.thenN ?_))
          refine .text (.inc rfl rfl (by have := hx.len; unfold maxL at this; omega) rfl (.mv rfl rfl (.done (.thenN ?_))))
          refine J.front 2 rfl (J.dropF 1 (J.again (k + 1, (if ldBad stgS l1 (R, key, wr) ss[k] = true then R else ldTwo (stgS.E · ss[k]) (stgS.N · ss[k] ·) R (stgS.made ss[k]) (stgS.ix ss[k])), (if ldBad stgS l1 (R, key, wr) ss[k] = true then key else stgS.kf ss[k]), (if ldBad stgS l1 (R, key, wr) ss[k] = true then true else ldWr (stgS.E · ss[k]) (stgS.N · ss[k] ·) R (stgS.made ss[k])), m2, h2) (by dsimp only; omega) ⟨hk, Hp.le_trans hl1 hl2, hR2, ?_, hinv⟩ (.cons rfl (.cons rfl (.cons rfl (.cons rfl (.cons rfl (.cons rfl (.nil _))))))) rfl rfl))
          dsimp only; split
          · exact hwf
          · exact ldTwo_wf (fun R i w => svcR_wf w) hwf
      ·
        have hk : k = ss.length := by simp [cmpI] at hb10; omega
        subst hk
        rw [List.drop_length] at hinv
        replace hinv : loadP most ns ss cs l0 l1 l2 = loadK3 l0 l1 l2 (ldGo stgC l2 (cs.drop 0) (R, ⟨#[]⟩, wr)) := hinv
        generalize key = k1
        refine .exit (.thenE (.thenE (.blkHit (.thenN ?_))))
        refine .seq (.seq (.text (.mv rfl rfl (.len (hc.mono RChk.mono hl1) rfl rfl rfl (.mv rfl rfl (.done (.thenN ?_)))))))
        refine .block (?_)
        refine J.loop (ι := Nat × Rst × ByteArray × Bool × Hp × Hp) (fun i => i.1 ≤ cs.length ∧ h.le i.2.2.2.2.2 ∧ Ro i.2.2.2.2.1 i.2.2.2.2.2 rp i.2.1 ∧ RWf i.2.1 ∧ loadP most ns ss cs l0 l1 l2 = loadK3 l0 l1 l2 (ldGo stgC l2 (cs.drop i.1) (i.2.1, i.2.2.1, i.2.2.2.1))) (fun i => [(9, .pointer (some ⟨b9, 0, none⟩)), (12, .pointer (some ⟨b12, 0, none⟩)), (68, cv), (69, .int .i64 (cs.length : Int)), (70, .int .i64 (i.1 : Int))]) (fun i => i.2.2.2.2.2) (fun i => [one lb (.cells ⟨ldV rp l0 l1 l2 k0 k1 i.2.2.1 i.2.2.2.1⟩ 103 (0, 0)), i.2.2.2.2.1, one b12 (.cells ⟨[.pointer (some ⟨lb, 0, none⟩)]⟩ 100 (0, 0)), one b9 (.cells ⟨[.int .u64 l0, .int .u64 l1, .int .u64 l2]⟩ 57 (0, 0))]) (fun i => cs.length - i.1) (0, R, (⟨#[]⟩ : ByteArray), wr, m, h1) ⟨by simp, hl1, hR, hwf, hinv⟩ (.cons rfl (.cons rfl (.cons rfl (.cons rfl (.cons rfl (.nil _)))))) rfl rfl ?_
        rintro ⟨k, R, key, wr, m, h1⟩ ⟨hk0, hl1, hR, hwf, hinv⟩
        dsimp only at hk0 hl1 hR hwf hinv ⊢
        have hx := hc.mono RChk.mono hl1
        refine .seq (.text (.cmp rfl rfl rfl rfl (.done (.thenN ?_))))
        refine .seq (.cond rfl (fun hb17 => ?_) (fun hb17 => ?_))
        ·
          have hk : k < cs.length := by simp [cmpI] at hb17; omega
          rw [ldGo_at hk] at hinv
          refine .skip (.thenN ?_)
          refine .seq (.block (.seq (.text (.ix (i := k) hx rfl rfl rfl hk rfl (.ldE hx hk rfl rfl rfl fun vs hvs => ?_)))))
          obtain rfl := hvs
          refine .alloc (cs := [_, _, _, _, _, _, _]) rfl rfl rfl fun b18 => .stW rfl rfl rfl rfl rfl rfl (.done (.thenN ?_))
          refine .seq (.seq (.text (.fa rfl rfl (.ld rfl rfl rfl rfl (?_)))))
          refine .callV rfl rfl right_walk rfl rfl (.not rfl rfl (.done (.thenN ?_)))
          refine .cond rfl (fun hb19 => ?_) (fun hb19 => ?_)
          ·
            have hr : (!rightN cs[k].node) = true := hb19
            refine .seq (.text (.as_ rfl rfl (.as_ rfl rfl (.done (.thenN ?_)))))
            refine .ret (.thenR (.blkR (.thenR (.thenR (.blkR (.thenR ?_))))))
            refine J.retTmp rfl (List.nil_sublist _) ?_
            rw [hinv, if_pos (show (!stgC.right cs[k]) = true from hr)]
            exact ⟨rfl, rfl⟩
          ·
            have hr : (!rightN cs[k].node) = false := hb19
            have hr1 : rightN cs[k].node = true := by simpa using hr
            rw [if_neg (ifn (show (!stgC.right cs[k]) = false from hr)), ldStep_eq] at hinv
            refine .skip (.thenN ?_)
            refine .draw [(0, .read), (1, .pure), (2, .read), (3, .pure), (4, .read), (6, .pure), (7, .read), (8, .pure), (9, .read), (10, .pure), (5, .grow), (11, .mut)] rfl (by kernel_rfl) (.ld rfl rfl rfl rfl (.fa rfl rfl (.ld rfl rfl rfl rfl (.fa rfl rfl (.ld rfl rfl rfl rfl (.fa rfl rfl (.ld rfl rfl rfl rfl (.fa rfl rfl (.ld rfl rfl rfl rfl (.mkF rfl rfl rfl (?_)))))))))))
            refine .callV rfl rfl (key_walk hr1 (hcm _ (List.getElem_mem hk)).id) rfl rfl (?_)
            refine J.front 1 rfl (J.front 2 rfl (J.front 1 rfl ?_))
            refine .callA rfl rfl (one2_walk (wr := wr) hR hwf (layChk_walk (x := cs[k]) (hcm _ (List.getElem_mem hk))) (fun R i w => chkR_wf w)) rfl rfl fun u2 h2 L2 hl2 hu2 => ?_
            obtain ⟨rfl, m2, rfl, hR2⟩ := hu2
            refine .done (.blkN (.thenN ?_))
            refine .text (.inc rfl rfl (by have := hx.len; unfold maxL at this; omega) rfl (.mv rfl rfl (.done (.thenN ?_))))
            refine J.front 2 rfl (J.dropF 1 (J.again (k + 1, (if ldBad stgC l2 (R, key, wr) cs[k] = true then R else ldTwo (stgC.E · cs[k]) (stgC.N · cs[k] ·) R (stgC.made cs[k]) (stgC.ix cs[k])), (if ldBad stgC l2 (R, key, wr) cs[k] = true then key else stgC.kf cs[k]), (if ldBad stgC l2 (R, key, wr) cs[k] = true then true else ldWr (stgC.E · cs[k]) (stgC.N · cs[k] ·) R (stgC.made cs[k])), m2, h2) (by dsimp only; omega) ⟨hk, Hp.le_trans hl1 hl2, hR2, ?_, hinv⟩ (.cons rfl (.cons rfl (.cons rfl (.cons rfl (.cons rfl (.nil _)))))) rfl rfl))
            dsimp only; split
            · exact hwf
            · exact ldTwo_wf (fun R i w => chkR_wf w) hwf
        ·
          have hk : k = cs.length := by simp [cmpI] at hb17; omega
          subst hk
          rw [List.drop_length] at hinv
          replace hinv : loadP most ns ss cs l0 l1 l2 = if wr = true then none else some { R with l0 := max R.l0 l0, l1 := max R.l1 l1, l2 := max R.l2 l2 } := hinv
          refine .exit (.thenE (.thenE (.blkHit (.thenN ?_))))
          refine .seq (.seq (.text (.ld rfl rfl rfl rfl (.nilOk rfl rfl (.fa rfl rfl (.ld rfl rfl rfl rfl (.done (.thenN ?_))))))))
          refine .cond rfl (fun hb23 => ?_) (fun hb23 => ?_)
          ·
            refine .seq (.text (.as_ rfl rfl (.as_ rfl rfl (.done (.thenN ?_)))))
            refine .ret (.thenR ?_)
            refine J.retTmp rfl (List.nil_sublist _) ?_
            rw [hinv, if_pos hb23]
            exact ⟨rfl, rfl⟩
          ·
            rw [if_neg (ifn hb23)] at hinv
            obtain ⟨t0, t1, t2, m0, m1, m2, hb, rfl, d0, d1, T0, T1, T2⟩ := hR
            haveI : ∀ L, At h1 L rp (.cells ⟨rosV t0 t1 t2⟩ 66 (0, 0)) := fun L => At.ofH hb
            refine J.front 1 rfl (J.open3 d0 d1 ?_)
            refine .skip (.thenN ?_)
            refine .seq (.draw [(0, .read), (1, .pure), (2, .pure), (3, .read), (4, .pure), (5, .pure), (6, .read), (7, .pure), (8, .read), (9, .mut)] rfl (by kernel_rfl) (.ld rfl rfl rfl rfl (.nilOk rfl rfl (.fa rfl rfl (.ld rfl rfl rfl rfl (.nilOk rfl rfl (.fa rfl rfl (.ld rfl rfl rfl rfl (.ixA (i := 0) rfl rfl rfl (by decide) rfl (.ld rfl rfl rfl rfl (?_)))))))))))
            refine .callM rfl rfl (raiseNod T0 hwf.ne) rfl rfl fun ua ha ma hla hua => ?_
            obtain ⟨rfl, rfl, T0⟩ := hua
            refine .done (.thenN ?_)
            refine .seq (.draw [(0, .read), (1, .pure), (2, .pure), (3, .read), (4, .pure), (5, .pure), (6, .read), (7, .pure), (8, .read), (9, .mut)] rfl (by kernel_rfl) (.ld rfl rfl rfl rfl (.nilOk rfl rfl (.fa rfl rfl (.ld rfl rfl rfl rfl (.nilOk rfl rfl (.fa rfl rfl (.ld rfl rfl rfl rfl (.ixA (i := 1) rfl rfl rfl (by decide) rfl (.ld rfl rfl rfl rfl (?_)))))))))))
            refine .callM rfl rfl (raiseSvc T1 hwf.ne) rfl rfl fun ua ha ma hla hua => ?_
            obtain ⟨rfl, rfl, T1⟩ := hua
            refine .done (.thenN ?_)
            refine .seq (.draw [(0, .read), (1, .pure), (2, .pure), (3, .read), (4, .pure), (5, .pure), (6, .read), (7, .pure), (8, .read), (9, .mut)] rfl (by kernel_rfl) (.ld rfl rfl rfl rfl (.nilOk rfl rfl (.fa rfl rfl (.ld rfl rfl rfl rfl (.nilOk rfl rfl (.fa rfl rfl (.ld rfl rfl rfl rfl (.ixA (i := 2) rfl rfl rfl (by decide) rfl (.ld rfl rfl rfl rfl (?_)))))))))))
            refine .callM rfl rfl (raiseChk T2 hwf.ne) rfl rfl fun ua ha ma hla hua => ?_
            obtain ⟨rfl, rfl, T2⟩ := hua
            refine .done (.thenN ?_)
            refine .seq (.text (.ld rfl rfl rfl rfl (.nilOk rfl rfl (.fa rfl rfl (.ld rfl rfl rfl rfl (.as_ rfl rfl (.as_ rfl rfl (.done (.thenN ?_)))))))))
            refine .ret ?_
            refine J.shut3 fun d0' d1' => J.retTmp rfl (List.Sublist.cons_cons _ (List.nil_sublist _)) ?_
            rw [hinv]
            exact ⟨rp, _, rfl, rfl, t0, t1, t2, _, _, _, hb, rfl, d0', d1', T0, T1, T2⟩
end Go.Sod
