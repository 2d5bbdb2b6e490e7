/-
  The loader's parts, walked. Conditions: none.
-/
import Derived.Test.YtemcklmfpapmpaaGreatLoadLaw
namespace Go.Sod
set_option linter.unusedVariables false
set_option linter.unusedSimpArgs false
set_option maxRecDepth 10000
set_option maxHeartbeats 4000000
theorem rnew_walk {h : Hp} {n : Int} : FS Go.Proofs.Tryz.prog 7 [.int .i64 n] h [] (fun v h' ms' => h.le h' ∧ ∃ rp m, v = .pointer (some ⟨rp, 0, none⟩) ∧ ms' = [m] ∧ Ro m h' rp (rst0 (min (max n 1) 64))) := by
  refine FS.enter Go.Proofs.Tryz.func7 rfl rfl fun w0 => ?_
  refine .seq (.text (.as_ rfl rfl (.done (.thenN ?_))))
  refine .seq (.text (.mv rfl rfl (?_)))
  refine .call0 rfl rfl newNod rfl rfl fun u4 h4 ms4 hl4 hu4 => ?_
  obtain ⟨rfl, p0, m0, rfl, rfl, T0⟩ := hu4
  simp only [List.singleton_append]
  refine .mv rfl rfl (?_)
  refine .call0 rfl rfl newSvc rfl rfl fun u6 h6 ms6 hl6 hu6 => ?_
  obtain ⟨rfl, p1, m1, rfl, rfl, T1⟩ := hu6
  simp only [List.singleton_append]
  refine .mv rfl rfl (?_)
  refine .call0 rfl rfl newChk rfl rfl fun u8 h8 ms8 hl8 hu8 => ?_
  obtain ⟨rfl, p2, m2, rfl, rfl, T2⟩ := hu8
  simp only [List.singleton_append]
  refine .bld [_, _, _] rfl (by rfl) rfl ?_
  refine .box (cs := [_, _, _]) rfl rfl rfl rfl fun b10 => .as_ rfl rfl (.done (.thenN ?_))
  refine .ret ?_
  refine J.frzB fun h' hl' hb => J.front 1 rfl (J.front 2 rfl (J.shut3 fun d0 d1 => ?_))
  exact J.retTmp rfl (List.Sublist.refl _) ⟨hl', _, _, rfl, rfl, p0, p1, p2, m0, m1, m2, hb, rfl, d0, d1, T0.mono RNod.mono hl', T1.mono RSvc.mono hl', T2.mono RChk.mono hl'⟩


def ldV (rp : Nat) (l0 l1 l2 : Int) (k0 k1 k2 : ByteArray) (wr : Bool) : List Value := [.pointer (some ⟨rp, 0, none⟩), .int .u64 l0, .int .u64 l1, .int .u64 l2, .string k0, .string k1, .string k2, .bool wr]
/-- what is asked of a closure that lays something in the roster -/
def LayS (P : Program) (fid : Nat) (cap : List Value) (L : List Hp) (lb rp : Nat) (l0 l1 l2 : Int) (E : Rst → Int) (N : Rst → Int → Rst) (h0 : Hp) : Prop :=
  ∀ (R : Rst) (i : Int) (m h : Hp) (k0 k1 k2 : ByteArray) (wr : Bool), h0.le h → Ro m h rp R → RWf R → FS P fid (.int .u64 i :: cap) h (one lb (.cells ⟨ldV rp l0 l1 l2 k0 k1 k2 wr⟩ 103 (0, 0)) :: m :: L) (fun v h' ms' => v = .int .i64 (E R) ∧ ∃ m', ms' = one lb (.cells ⟨ldV rp l0 l1 l2 k0 k1 k2 wr⟩ 103 (0, 0)) :: m' :: L ∧ Ro m' h' rp (N R i))

theorem layNod_walk {h0 : Hp} {L : List Hp} {lb rp b1 b2 : Nat} {T1 : TypeId} {l0 l1 l2 : Int} {x : Nod} [i1 : At h0 L b1 (.cells ⟨[.pointer (some ⟨lb, 0, none⟩)]⟩ T1 (0, 0))] [i2 : At h0 L b2 (.cells ⟨nodV x⟩ 49 (0, 0))] : LayS Go.Proofs.Tryz.prog 53 [.pointer (some ⟨b1, 0, none⟩), .pointer (some ⟨b2, 0, none⟩)] L lb rp l0 l1 l2 (fun R => nodeE R x.node x.addr) (fun R i => nodeR R x.node x.addr i) h0 := by
  intro R i m h k0 k1 k2 wr hle hR hw
  refine FS.enter Go.Proofs.Tryz.func53 rfl rfl fun w0 => ?_
  haveI : At h L b1 (.cells ⟨[.pointer (some ⟨lb, 0, none⟩)]⟩ T1 (0, 0)) := i1.up hle
  haveI : At h L b2 (.cells ⟨nodV x⟩ 49 (0, 0)) := i2.up hle
  refine .seq (.text (.as_ rfl rfl (.done (.thenN ?_))))
  refine .seq (.draw [(0, .read), (1, .pure), (2, .pure), (3, .read), (4, .pure), (5, .read), (6, .pure), (7, .read), (8, .pure), (9, .mut), (10, .pure)] rfl (by kernel_rfl) (.ld rfl rfl rfl rfl (.nilOk rfl rfl (.fa rfl rfl (.ld rfl rfl rfl rfl (.fa rfl rfl (.ld rfl rfl rfl rfl (.fa rfl rfl (.ld rfl rfl rfl rfl (.mv rfl rfl (?_)))))))))))
  refine .callM rfl rfl (node_walk hR hw) rfl rfl fun u h1 m1 hl1 hu => ?_
  obtain ⟨rfl, rfl, hR1⟩ := hu
  refine .as_ rfl rfl (.done (.thenN ?_))
  refine .ret ?_
  exact J.retTmp rfl (List.Sublist.refl _) ⟨rfl, _, rfl, hR1⟩

theorem laySvc_walk {h0 : Hp} {L : List Hp} {lb rp b1 b2 : Nat} {T1 : TypeId} {l0 l1 l2 : Int} {x : Svc} {tv : Value} (hts : SlR h0 1 RS tv x.tags) (sm : SvcSm x) [i1 : At h0 L b1 (.cells ⟨[.pointer (some ⟨lb, 0, none⟩)]⟩ T1 (0, 0))] [i2 : At h0 L b2 (.cells ⟨svcV x tv⟩ 31 (0, 0))] : LayS Go.Proofs.Tryz.prog 54 [.pointer (some ⟨b1, 0, none⟩), .pointer (some ⟨b2, 0, none⟩)] L lb rp l0 l1 l2 (fun R => svcE R x) (fun R i => svcR R x i) h0 := by
  intro R i m h k0 k1 k2 wr hle hR hw
  refine FS.enter Go.Proofs.Tryz.func54 rfl rfl fun w0 => ?_
  obtain ⟨tA, tc, rfl⟩ := hts.form
  haveI : At h L b1 (.cells ⟨[.pointer (some ⟨lb, 0, none⟩)]⟩ T1 (0, 0)) := i1.up hle
  haveI : At h L b2 (.cells ⟨svcV x (.slice tA x.tags.length tc)⟩ 31 (0, 0)) := i2.up hle
  refine .seq (.text (.as_ rfl rfl (.done (.thenN ?_))))
  refine .seq (.draw [(0, .read), (1, .pure), (2, .pure), (3, .read), (4, .read), (5, .pure), (6, .mut), (7, .pure)] rfl (by kernel_rfl) (.ld rfl rfl rfl rfl (.nilOk rfl rfl (.fa rfl rfl (.ld rfl rfl rfl rfl (.ldW rfl rfl rfl rfl (.mv rfl rfl (?_))))))))
  refine .callM rfl rfl (service_walk hR hw (hts.mono RS.mono hle) sm) rfl rfl fun u h1 m1 hl1 hu => ?_
  obtain ⟨rfl, hR1⟩ := hu
  refine .as_ rfl rfl (.done (.thenN ?_))
  refine .ret ?_
  exact J.retTmp rfl (List.Sublist.refl _) ⟨rfl, _, rfl, hR1⟩

theorem layChk_walk {h0 : Hp} {L : List Hp} {lb rp b1 b2 : Nat} {T1 : TypeId} {l0 l1 l2 : Int} {x : Chk} (sm : ChkSm x) [i1 : At h0 L b1 (.cells ⟨[.pointer (some ⟨lb, 0, none⟩)]⟩ T1 (0, 0))] [i2 : At h0 L b2 (.cells ⟨chkV x⟩ 33 (0, 0))] : LayS Go.Proofs.Tryz.prog 55 [.pointer (some ⟨b1, 0, none⟩), .pointer (some ⟨b2, 0, none⟩)] L lb rp l0 l1 l2 (fun R => chkE R x) (fun R i => chkR R x i) h0 := by
  intro R i m h k0 k1 k2 wr hle hR hw
  refine FS.enter Go.Proofs.Tryz.func55 rfl rfl fun w0 => ?_
  haveI : At h L b1 (.cells ⟨[.pointer (some ⟨lb, 0, none⟩)]⟩ T1 (0, 0)) := i1.up hle
  haveI : At h L b2 (.cells ⟨chkV x⟩ 33 (0, 0)) := i2.up hle
  refine .seq (.text (.as_ rfl rfl (.done (.thenN ?_))))
  refine .seq (.draw [(0, .read), (1, .pure), (2, .pure), (3, .read), (4, .read), (5, .pure), (6, .mut), (7, .pure)] rfl (by kernel_rfl) (.ld rfl rfl rfl rfl (.nilOk rfl rfl (.fa rfl rfl (.ld rfl rfl rfl rfl (.ldW rfl rfl rfl rfl (.mv rfl rfl (?_))))))))
  refine .callM rfl rfl (check_walk hR hw sm) rfl rfl fun u h1 m1 hl1 hu => ?_
  obtain ⟨rfl, rfl, hR1⟩ := hu
  refine .as_ rfl rfl (.done (.thenN ?_))
  refine .ret ?_
  exact J.retTmp rfl (List.Sublist.refl _) ⟨rfl, _, rfl, hR1⟩

theorem one0_walk {h m : Hp} {L : List Hp} {lb rp fid : Nat} {cap : List Value} {R : Rst} {l0 l1 l2 made ix : Int} {k0 k1 k2 key : ByteArray} {wr : Bool} {E : Rst → Int} {N : Rst → Int → Rst} [Fnc Go.Proofs.Tryz.prog fid] (hR : Ro m h rp R) (hw : RWf R) (hlay : LayS Go.Proofs.Tryz.prog fid cap L lb rp l0 l1 l2 E N h) (hN : ∀ R i, RWf R → RWf (N R i)) : FS Go.Proofs.Tryz.prog 51 [.pointer (some ⟨lb, 0, none⟩), .int .i64 0, .string key, .int .u64 made, .int .u64 ix, .func (.func fid) ⟨[]⟩ ⟨cap⟩] h (one lb (.cells ⟨ldV rp l0 l1 l2 k0 k1 k2 wr⟩ 103 (0, 0)) :: m :: L) (fun v h' ms' => v = .tuple ⟨[]⟩ ∧ ∃ m', ms' = one lb (.cells ⟨ldV rp l0 l1 l2 (if (((wr || (strLt key k0 || decide (key = k0))) || decide (ix < made)) || decide (l0 < ix)) = true then k0 else key) k1 k2 (if (((wr || (strLt key k0 || decide (key = k0))) || decide (ix < made)) || decide (l0 < ix)) = true then true else ldWr E N R made)⟩ 103 (0, 0)) :: m' :: L ∧ Ro m' h' rp (if (((wr || (strLt key k0 || decide (key = k0))) || decide (ix < made)) || decide (l0 < ix)) = true then R else ldTwo E N R made ix)) := by
  refine FS.enter Go.Proofs.Tryz.func51 rfl rfl fun w0 => ?_
  unfold ldV
  refine .seq (.seq (.text (.mv rfl rfl (.nilOk rfl rfl (.fa rfl rfl (.ld rfl rfl rfl rfl (.mv rfl rfl (.or (d := 25) (g := 16) _ _ (take_drop 9) rfl rfl (fun hb0_5 => .guard rfl rfl rfl rfl (.mv rfl rfl (.guard rfl rfl rfl rfl (.mv rfl rfl (.guard rfl rfl rfl rfl (.mv rfl rfl (.guard rfl rfl rfl rfl (.nilOk rfl rfl (.guard rfl rfl rfl rfl (.fa rfl rfl (.guard rfl rfl rfl rfl (.ixA (i := 0) rfl rfl rfl (by decide) rfl (.guard rfl rfl rfl rfl (.ld rfl rfl rfl rfl (.guard rfl rfl rfl rfl (.cmpS rfl rfl rfl rfl (.pick rfl rfl rfl rfl ((.done (.thenN (.midB rfl))))))))))))))))))))) (.guardNo rfl rfl rfl rfl rfl rfl (.guardNo rfl rfl rfl rfl rfl rfl (.guardNo rfl rfl rfl rfl rfl rfl (.guardNo rfl rfl rfl rfl rfl rfl (.guardNo rfl rfl rfl rfl rfl rfl (.guardNo rfl rfl rfl rfl rfl rfl (.guardNo rfl rfl rfl rfl rfl rfl (.guardNo rfl rfl rfl rfl rfl rfl (.pick rfl rfl rfl rfl ((.done (.thenN (.midB rfl))))))))))))) (.mv rfl rfl (.or (d := 30) (g := 26) _ _ (take_drop 4) rfl rfl (fun hb0_15 => .guard rfl rfl rfl rfl (.mv rfl rfl (.guard rfl rfl rfl rfl (.mv rfl rfl (.guard rfl rfl rfl rfl (.cmp rfl rfl rfl rfl (.pick rfl rfl rfl rfl ((.done (.thenN (.midB rfl))))))))))) (.guardNo rfl rfl rfl rfl rfl rfl (.guardNo rfl rfl rfl rfl rfl rfl (.guardNo rfl rfl rfl rfl rfl rfl (.pick rfl rfl rfl rfl ((.done (.thenN (.midB rfl)))))))) (.mv rfl rfl (.or (d := 40) (g := 31) _ _ (take_drop 9) rfl rfl (fun hb0_20 => .guard rfl rfl rfl rfl (.mv rfl rfl (.guard rfl rfl rfl rfl (.mv rfl rfl (.guard rfl rfl rfl rfl (.mv rfl rfl (.guard rfl rfl rfl rfl (.nilOk rfl rfl (.guard rfl rfl rfl rfl (.fa rfl rfl (.guard rfl rfl rfl rfl (.ixA (i := 0) rfl rfl rfl (by decide) rfl (.guard rfl rfl rfl rfl (.ld rfl rfl rfl rfl (.guard rfl rfl rfl rfl (.cmp rfl rfl rfl rfl (.pick rfl rfl rfl rfl ((.done (.thenN (.midB rfl))))))))))))))))))))) (.guardNo rfl rfl rfl rfl rfl rfl (.guardNo rfl rfl rfl rfl rfl rfl (.guardNo rfl rfl rfl rfl rfl rfl (.guardNo rfl rfl rfl rfl rfl rfl (.guardNo rfl rfl rfl rfl rfl rfl (.guardNo rfl rfl rfl rfl rfl rfl (.guardNo rfl rfl rfl rfl rfl rfl (.guardNo rfl rfl rfl rfl rfl rfl (.pick rfl rfl rfl rfl ((.done (.thenN (.midB rfl))))))))))))) (.done (.thenN ?_))))))))))))))
  refine .cond rfl (fun hb0 => ?_) (fun hb0 => ?_)
  ·
    replace hb0 : (((wr || (strLt key k0 || decide (key = k0))) || decide (ix < made)) || decide (l0 < ix)) = true := hb0
    refine .seq (.text (.mv rfl rfl (.nilOk rfl rfl (.fa rfl rfl (.stS rfl rfl rfl rfl (.done (.thenN ?_)))))))
    refine .ret (.thenR ?_)
    exact J.retTmp (vs := []) rfl (List.Sublist.refl _) ⟨rfl, m, by rw [if_pos hb0, if_pos hb0], by rw [if_pos hb0]; exact hR⟩
  ·
    replace hb0 : (((wr || (strLt key k0 || decide (key = k0))) || decide (ix < made)) || decide (l0 < ix)) = false := hb0
    refine .skip (.thenN ?_)
    refine .seq (.text (.mv rfl rfl (.mv rfl rfl (.mv rfl rfl (.nilOk rfl rfl (.fa rfl rfl (.ixA (i := 0) rfl rfl rfl (by decide) rfl (.stS rfl rfl rfl rfl (.done (.thenN ?_))))))))))
    refine .text (.mv rfl rfl (.mv rfl rfl (.mv rfl rfl (?_))))
    refine .callA rfl rfl (hlay R made m h key k1 k2 wr (Hp.le_refl _) hR hw) rfl rfl fun u53 h53 L53 hl53 hu53 => ?_
    obtain ⟨rfl, m1, rfl, hR1⟩ := hu53
    refine .cmp rfl rfl rfl rfl (.mv rfl rfl (.grpG (ι := Hp × Hp) (fun i => Ro i.1 i.2 rp (ldTwo E N R made ix)) (fun _ => ldWr E N R made) (fun i => i.2) (fun i => one lb (.cells ⟨ldV rp l0 l1 l2 key k1 k2 wr⟩ 103 (0, 0)) :: i.1 :: L) (d := 60) _ _ (take_drop 5) rfl ?_ ?_))
    ·
      refine J.split (t := 55) rfl (fun hb3_6 => ?_) (fun hb3_6 => ?_)
      ·
        refine .guardNo rfl rfl rfl rfl rfl rfl (.guardNo rfl rfl rfl rfl rfl rfl (.guardNo rfl rfl rfl rfl rfl rfl (.guardNo rfl rfl rfl rfl rfl rfl (.pick rfl rfl rfl rfl ((.done (.thenN ?_)))))))
        refine J.midG (m1, h53) ?_ ?_ rfl rfl
        · dsimp only; rw [ldTwo, if_pos hb3_6]; exact hR1
        · rw [ldWr, hb3_6]; rfl
      ·
        refine .guard rfl rfl rfl rfl (.mv rfl rfl (.guard rfl rfl rfl rfl (.mv rfl rfl (.guard rfl rfl rfl rfl (?_)))))
        refine .callA rfl rfl (hlay (N R made) ix m1 h53 key k1 k2 wr hl53 hR1 (hN R made hw)) rfl rfl fun u58 h58 L58 hl58 hu58 => ?_
        obtain ⟨rfl, m2, rfl, hR2⟩ := hu58
        refine .guard rfl rfl rfl rfl (.cmp rfl rfl rfl rfl (.pick rfl rfl rfl rfl ((.done (.thenN ?_)))))
        refine J.midG (m2, h58) ?_ ?_ rfl rfl
        · dsimp only; rw [ldTwo, if_neg (ifn hb3_6)]; exact hR2
        · rw [ldWr, hb3_6]; rfl
    rintro ⟨m3, h3⟩ hR3
    dsimp only [ldV] at hR3 ⊢
    refine .nilOk rfl rfl (.fa rfl rfl (.stS rfl rfl rfl rfl (.done ?_)))
    exact J.retTmp (vs := []) rfl (List.Sublist.refl _) ⟨rfl, m3, by rw [if_neg (ifn hb0), if_neg (ifn hb0)], by rw [if_neg (ifn hb0)]; exact hR3⟩

theorem one1_walk {h m : Hp} {L : List Hp} {lb rp fid : Nat} {cap : List Value} {R : Rst} {l0 l1 l2 made ix : Int} {k0 k1 k2 key : ByteArray} {wr : Bool} {E : Rst → Int} {N : Rst → Int → Rst} [Fnc Go.Proofs.Tryz.prog fid] (hR : Ro m h rp R) (hw : RWf R) (hlay : LayS Go.Proofs.Tryz.prog fid cap L lb rp l0 l1 l2 E N h) (hN : ∀ R i, RWf R → RWf (N R i)) : FS Go.Proofs.Tryz.prog 51 [.pointer (some ⟨lb, 0, none⟩), .int .i64 1, .string key, .int .u64 made, .int .u64 ix, .func (.func fid) ⟨[]⟩ ⟨cap⟩] h (one lb (.cells ⟨ldV rp l0 l1 l2 k0 k1 k2 wr⟩ 103 (0, 0)) :: m :: L) (fun v h' ms' => v = .tuple ⟨[]⟩ ∧ ∃ m', ms' = one lb (.cells ⟨ldV rp l0 l1 l2 k0 (if (((wr || (strLt key k1 || decide (key = k1))) || decide (ix < made)) || decide (l1 < ix)) = true then k1 else key) k2 (if (((wr || (strLt key k1 || decide (key = k1))) || decide (ix < made)) || decide (l1 < ix)) = true then true else ldWr E N R made)⟩ 103 (0, 0)) :: m' :: L ∧ Ro m' h' rp (if (((wr || (strLt key k1 || decide (key = k1))) || decide (ix < made)) || decide (l1 < ix)) = true then R else ldTwo E N R made ix)) := by
  refine FS.enter Go.Proofs.Tryz.func51 rfl rfl fun w0 => ?_
  unfold ldV
  refine .seq (.seq (.text (.mv rfl rfl (.nilOk rfl rfl (.fa rfl rfl (.ld rfl rfl rfl rfl (.mv rfl rfl (.or (d := 25) (g := 16) _ _ (take_drop 9) rfl rfl (fun hb0_5 => .guard rfl rfl rfl rfl (.mv rfl rfl (.guard rfl rfl rfl rfl (.mv rfl rfl (.guard rfl rfl rfl rfl (.mv rfl rfl (.guard rfl rfl rfl rfl (.nilOk rfl rfl (.guard rfl rfl rfl rfl (.fa rfl rfl (.guard rfl rfl rfl rfl (.ixA (i := 1) rfl rfl rfl (by decide) rfl (.guard rfl rfl rfl rfl (.ld rfl rfl rfl rfl (.guard rfl rfl rfl rfl (.cmpS rfl rfl rfl rfl (.pick rfl rfl rfl rfl ((.done (.thenN (.midB rfl))))))))))))))))))))) (.guardNo rfl rfl rfl rfl rfl rfl (.guardNo rfl rfl rfl rfl rfl rfl (.guardNo rfl rfl rfl rfl rfl rfl (.guardNo rfl rfl rfl rfl rfl rfl (.guardNo rfl rfl rfl rfl rfl rfl (.guardNo rfl rfl rfl rfl rfl rfl (.guardNo rfl rfl rfl rfl rfl rfl (.guardNo rfl rfl rfl rfl rfl rfl (.pick rfl rfl rfl rfl ((.done (.thenN (.midB rfl))))))))))))) (.mv rfl rfl (.or (d := 30) (g := 26) _ _ (take_drop 4) rfl rfl (fun hb0_15 => .guard rfl rfl rfl rfl (.mv rfl rfl (.guard rfl rfl rfl rfl (.mv rfl rfl (.guard rfl rfl rfl rfl (.cmp rfl rfl rfl rfl (.pick rfl rfl rfl rfl ((.done (.thenN (.midB rfl))))))))))) (.guardNo rfl rfl rfl rfl rfl rfl (.guardNo rfl rfl rfl rfl rfl rfl (.guardNo rfl rfl rfl rfl rfl rfl (.pick rfl rfl rfl rfl ((.done (.thenN (.midB rfl)))))))) (.mv rfl rfl (.or (d := 40) (g := 31) _ _ (take_drop 9) rfl rfl (fun hb0_20 => .guard rfl rfl rfl rfl (.mv rfl rfl (.guard rfl rfl rfl rfl (.mv rfl rfl (.guard rfl rfl rfl rfl (.mv rfl rfl (.guard rfl rfl rfl rfl (.nilOk rfl rfl (.guard rfl rfl rfl rfl (.fa rfl rfl (.guard rfl rfl rfl rfl (.ixA (i := 1) rfl rfl rfl (by decide) rfl (.guard rfl rfl rfl rfl (.ld rfl rfl rfl rfl (.guard rfl rfl rfl rfl (.cmp rfl rfl rfl rfl (.pick rfl rfl rfl rfl ((.done (.thenN (.midB rfl))))))))))))))))))))) (.guardNo rfl rfl rfl rfl rfl rfl (.guardNo rfl rfl rfl rfl rfl rfl (.guardNo rfl rfl rfl rfl rfl rfl (.guardNo rfl rfl rfl rfl rfl rfl (.guardNo rfl rfl rfl rfl rfl rfl (.guardNo rfl rfl rfl rfl rfl rfl (.guardNo rfl rfl rfl rfl rfl rfl (.guardNo rfl rfl rfl rfl rfl rfl (.pick rfl rfl rfl rfl ((.done (.thenN (.midB rfl))))))))))))) (.done (.thenN ?_))))))))))))))
  refine .cond rfl (fun hb0 => ?_) (fun hb0 => ?_)
  ·
    replace hb0 : (((wr || (strLt key k1 || decide (key = k1))) || decide (ix < made)) || decide (l1 < ix)) = true := hb0
    refine .seq (.text (.mv rfl rfl (.nilOk rfl rfl (.fa rfl rfl (.stS rfl rfl rfl rfl (.done (.thenN ?_)))))))
    refine .ret (.thenR ?_)
    exact J.retTmp (vs := []) rfl (List.Sublist.refl _) ⟨rfl, m, by rw [if_pos hb0, if_pos hb0], by rw [if_pos hb0]; exact hR⟩
  ·
    replace hb0 : (((wr || (strLt key k1 || decide (key = k1))) || decide (ix < made)) || decide (l1 < ix)) = false := hb0
    refine .skip (.thenN ?_)
    refine .seq (.text (.mv rfl rfl (.mv rfl rfl (.mv rfl rfl (.nilOk rfl rfl (.fa rfl rfl (.ixA (i := 1) rfl rfl rfl (by decide) rfl (.stS rfl rfl rfl rfl (.done (.thenN ?_))))))))))
    refine .text (.mv rfl rfl (.mv rfl rfl (.mv rfl rfl (?_))))
    refine .callA rfl rfl (hlay R made m h k0 key k2 wr (Hp.le_refl _) hR hw) rfl rfl fun u53 h53 L53 hl53 hu53 => ?_
    obtain ⟨rfl, m1, rfl, hR1⟩ := hu53
    refine .cmp rfl rfl rfl rfl (.mv rfl rfl (.grpG (ι := Hp × Hp) (fun i => Ro i.1 i.2 rp (ldTwo E N R made ix)) (fun _ => ldWr E N R made) (fun i => i.2) (fun i => one lb (.cells ⟨ldV rp l0 l1 l2 k0 key k2 wr⟩ 103 (0, 0)) :: i.1 :: L) (d := 60) _ _ (take_drop 5) rfl ?_ ?_))
    ·
      refine J.split (t := 55) rfl (fun hb3_6 => ?_) (fun hb3_6 => ?_)
      ·
        refine .guardNo rfl rfl rfl rfl rfl rfl (.guardNo rfl rfl rfl rfl rfl rfl (.guardNo rfl rfl rfl rfl rfl rfl (.guardNo rfl rfl rfl rfl rfl rfl (.pick rfl rfl rfl rfl ((.done (.thenN ?_)))))))
        refine J.midG (m1, h53) ?_ ?_ rfl rfl
        · dsimp only; rw [ldTwo, if_pos hb3_6]; exact hR1
        · rw [ldWr, hb3_6]; rfl
      ·
        refine .guard rfl rfl rfl rfl (.mv rfl rfl (.guard rfl rfl rfl rfl (.mv rfl rfl (.guard rfl rfl rfl rfl (?_)))))
        refine .callA rfl rfl (hlay (N R made) ix m1 h53 k0 key k2 wr hl53 hR1 (hN R made hw)) rfl rfl fun u58 h58 L58 hl58 hu58 => ?_
        obtain ⟨rfl, m2, rfl, hR2⟩ := hu58
        refine .guard rfl rfl rfl rfl (.cmp rfl rfl rfl rfl (.pick rfl rfl rfl rfl ((.done (.thenN ?_)))))
        refine J.midG (m2, h58) ?_ ?_ rfl rfl
        · dsimp only; rw [ldTwo, if_neg (ifn hb3_6)]; exact hR2
        · rw [ldWr, hb3_6]; rfl
    rintro ⟨m3, h3⟩ hR3
    dsimp only [ldV] at hR3 ⊢
    refine .nilOk rfl rfl (.fa rfl rfl (.stS rfl rfl rfl rfl (.done ?_)))
    exact J.retTmp (vs := []) rfl (List.Sublist.refl _) ⟨rfl, m3, by rw [if_neg (ifn hb0), if_neg (ifn hb0)], by rw [if_neg (ifn hb0)]; exact hR3⟩

theorem one2_walk {h m : Hp} {L : List Hp} {lb rp fid : Nat} {cap : List Value} {R : Rst} {l0 l1 l2 made ix : Int} {k0 k1 k2 key : ByteArray} {wr : Bool} {E : Rst → Int} {N : Rst → Int → Rst} [Fnc Go.Proofs.Tryz.prog fid] (hR : Ro m h rp R) (hw : RWf R) (hlay : LayS Go.Proofs.Tryz.prog fid cap L lb rp l0 l1 l2 E N h) (hN : ∀ R i, RWf R → RWf (N R i)) : FS Go.Proofs.Tryz.prog 51 [.pointer (some ⟨lb, 0, none⟩), .int .i64 2, .string key, .int .u64 made, .int .u64 ix, .func (.func fid) ⟨[]⟩ ⟨cap⟩] h (one lb (.cells ⟨ldV rp l0 l1 l2 k0 k1 k2 wr⟩ 103 (0, 0)) :: m :: L) (fun v h' ms' => v = .tuple ⟨[]⟩ ∧ ∃ m', ms' = one lb (.cells ⟨ldV rp l0 l1 l2 k0 k1 (if (((wr || (strLt key k2 || decide (key = k2))) || decide (ix < made)) || decide (l2 < ix)) = true then k2 else key) (if (((wr || (strLt key k2 || decide (key = k2))) || decide (ix < made)) || decide (l2 < ix)) = true then true else ldWr E N R made)⟩ 103 (0, 0)) :: m' :: L ∧ Ro m' h' rp (if (((wr || (strLt key k2 || decide (key = k2))) || decide (ix < made)) || decide (l2 < ix)) = true then R else ldTwo E N R made ix)) := by
  refine FS.enter Go.Proofs.Tryz.func51 rfl rfl fun w0 => ?_
  unfold ldV
  refine .seq (.seq (.text (.mv rfl rfl (.nilOk rfl rfl (.fa rfl rfl (.ld rfl rfl rfl rfl (.mv rfl rfl (.or (d := 25) (g := 16) _ _ (take_drop 9) rfl rfl (fun hb0_5 => .guard rfl rfl rfl rfl (.mv rfl rfl (.guard rfl rfl rfl rfl (.mv rfl rfl (.guard rfl rfl rfl rfl (.mv rfl rfl (.guard rfl rfl rfl rfl (.nilOk rfl rfl (.guard rfl rfl rfl rfl (.fa rfl rfl (.guard rfl rfl rfl rfl (.ixA (i := 2) rfl rfl rfl (by decide) rfl (.guard rfl rfl rfl rfl (.ld rfl rfl rfl rfl (.guard rfl rfl rfl rfl (.cmpS rfl rfl rfl rfl (.pick rfl rfl rfl rfl ((.done (.thenN (.midB rfl))))))))))))))))))))) (.guardNo rfl rfl rfl rfl rfl rfl (.guardNo rfl rfl rfl rfl rfl rfl (.guardNo rfl rfl rfl rfl rfl rfl (.guardNo rfl rfl rfl rfl rfl rfl (.guardNo rfl rfl rfl rfl rfl rfl (.guardNo rfl rfl rfl rfl rfl rfl (.guardNo rfl rfl rfl rfl rfl rfl (.guardNo rfl rfl rfl rfl rfl rfl (.pick rfl rfl rfl rfl ((.done (.thenN (.midB rfl))))))))))))) (.mv rfl rfl (.or (d := 30) (g := 26) _ _ (take_drop 4) rfl rfl (fun hb0_15 => .guard rfl rfl rfl rfl (.mv rfl rfl (.guard rfl rfl rfl rfl (.mv rfl rfl (.guard rfl rfl rfl rfl (.cmp rfl rfl rfl rfl (.pick rfl rfl rfl rfl ((.done (.thenN (.midB rfl))))))))))) (.guardNo rfl rfl rfl rfl rfl rfl (.guardNo rfl rfl rfl rfl rfl rfl (.guardNo rfl rfl rfl rfl rfl rfl (.pick rfl rfl rfl rfl ((.done (.thenN (.midB rfl)))))))) (.mv rfl rfl (.or (d := 40) (g := 31) _ _ (take_drop 9) rfl rfl (fun hb0_20 => .guard rfl rfl rfl rfl (.mv rfl rfl (.guard rfl rfl rfl rfl (.mv rfl rfl (.guard rfl rfl rfl rfl (.mv rfl rfl (.guard rfl rfl rfl rfl (.nilOk rfl rfl (.guard rfl rfl rfl rfl (.fa rfl rfl (.guard rfl rfl rfl rfl (.ixA (i := 2) rfl rfl rfl (by decide) rfl (.guard rfl rfl rfl rfl (.ld rfl rfl rfl rfl (.guard rfl rfl rfl rfl (.cmp rfl rfl rfl rfl (.pick rfl rfl rfl rfl ((.done (.thenN (.midB rfl))))))))))))))))))))) (.guardNo rfl rfl rfl rfl rfl rfl (.guardNo rfl rfl rfl rfl rfl rfl (.guardNo rfl rfl rfl rfl rfl rfl (.guardNo rfl rfl rfl rfl rfl rfl (.guardNo rfl rfl rfl rfl rfl rfl (.guardNo rfl rfl rfl rfl rfl rfl (.guardNo rfl rfl rfl rfl rfl rfl (.guardNo rfl rfl rfl rfl rfl rfl (.pick rfl rfl rfl rfl ((.done (.thenN (.midB rfl))))))))))))) (.done (.thenN ?_))))))))))))))
  refine .cond rfl (fun hb0 => ?_) (fun hb0 => ?_)
  ·
    replace hb0 : (((wr || (strLt key k2 || decide (key = k2))) || decide (ix < made)) || decide (l2 < ix)) = true := hb0
    refine .seq (.text (.mv rfl rfl (.nilOk rfl rfl (.fa rfl rfl (.stS rfl rfl rfl rfl (.done (.thenN ?_)))))))
    refine .ret (.thenR ?_)
    exact J.retTmp (vs := []) rfl (List.Sublist.refl _) ⟨rfl, m, by rw [if_pos hb0, if_pos hb0], by rw [if_pos hb0]; exact hR⟩
  ·
    replace hb0 : (((wr || (strLt key k2 || decide (key = k2))) || decide (ix < made)) || decide (l2 < ix)) = false := hb0
    refine .skip (.thenN ?_)
    refine .seq (.text (.mv rfl rfl (.mv rfl rfl (.mv rfl rfl (.nilOk rfl rfl (.fa rfl rfl (.ixA (i := 2) rfl rfl rfl (by decide) rfl (.stS rfl rfl rfl rfl (.done (.thenN ?_))))))))))
    refine .text (.mv rfl rfl (.mv rfl rfl (.mv rfl rfl (?_))))
    refine .callA rfl rfl (hlay R made m h k0 k1 key wr (Hp.le_refl _) hR hw) rfl rfl fun u53 h53 L53 hl53 hu53 => ?_
    obtain ⟨rfl, m1, rfl, hR1⟩ := hu53
    refine .cmp rfl rfl rfl rfl (.mv rfl rfl (.grpG (ι := Hp × Hp) (fun i => Ro i.1 i.2 rp (ldTwo E N R made ix)) (fun _ => ldWr E N R made) (fun i => i.2) (fun i => one lb (.cells ⟨ldV rp l0 l1 l2 k0 k1 key wr⟩ 103 (0, 0)) :: i.1 :: L) (d := 60) _ _ (take_drop 5) rfl ?_ ?_))
    ·
      refine J.split (t := 55) rfl (fun hb3_6 => ?_) (fun hb3_6 => ?_)
      ·
        refine .guardNo rfl rfl rfl rfl rfl rfl (.guardNo rfl rfl rfl rfl rfl rfl (.guardNo rfl rfl rfl rfl rfl rfl (.guardNo rfl rfl rfl rfl rfl rfl (.pick rfl rfl rfl rfl ((.done (.thenN ?_)))))))
        refine J.midG (m1, h53) ?_ ?_ rfl rfl
        · dsimp only; rw [ldTwo, if_pos hb3_6]; exact hR1
        · rw [ldWr, hb3_6]; rfl
      ·
        refine .guard rfl rfl rfl rfl (.mv rfl rfl (.guard rfl rfl rfl rfl (.mv rfl rfl (.guard rfl rfl rfl rfl (?_)))))
        refine .callA rfl rfl (hlay (N R made) ix m1 h53 k0 k1 key wr hl53 hR1 (hN R made hw)) rfl rfl fun u58 h58 L58 hl58 hu58 => ?_
        obtain ⟨rfl, m2, rfl, hR2⟩ := hu58
        refine .guard rfl rfl rfl rfl (.cmp rfl rfl rfl rfl (.pick rfl rfl rfl rfl ((.done (.thenN ?_)))))
        refine J.midG (m2, h58) ?_ ?_ rfl rfl
        · dsimp only; rw [ldTwo, if_neg (ifn hb3_6)]; exact hR2
        · rw [ldWr, hb3_6]; rfl
    rintro ⟨m3, h3⟩ hR3
    dsimp only [ldV] at hR3 ⊢
    refine .nilOk rfl rfl (.fa rfl rfl (.stS rfl rfl rfl rfl (.done ?_)))
    exact J.retTmp (vs := []) rfl (List.Sublist.refl _) ⟨rfl, m3, by rw [if_neg (ifn hb0), if_neg (ifn hb0)], by rw [if_neg (ifn hb0)]; exact hR3⟩
end Go.Sod
