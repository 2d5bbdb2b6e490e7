/-
  The tables' Drop and Copy, walked. Conditions: none.
-/
import Derived.Test.YtemcklmfpapmpaaGreatR6
namespace Go.Sod
set_option linter.unusedVariables false
set_option linter.unusedSimpArgs false
set_option maxRecDepth 10000
set_option maxHeartbeats 4000000

def dropL {α : Type} (xs : List (Row α)) (key : ByteArray) : List (Row α) := if atIs xs key = true then xs.take (atK xs key) ++ xs.drop (atK xs key + 1) else xs

theorem dropNod {h m : Hp} {tb : Nat} {most last ix : Int} {xs : List (Row Nod)} {key : ByteArray} (ht : Tb 7 119 111 RNod m h tb most xs last) (hs : Srt xs) (hm : most ≠ 0) : FM Go.Proofs.Tryz.prog 66 [.pointer (some ⟨tb, 0, none⟩), .string key, .int .u64 ix] h m (fun v h' m' => v = .bool (atIs xs key) ∧ Tb 7 119 111 RNod m' h' tb most (dropL xs key) (if atIs xs key = true then max last ix else last)) := by
  obtain ⟨rv, mr, rfl, hd, hr⟩ := ht
  refine FS.enter Go.Proofs.Tryz.func66 rfl rfl fun w0 => ?_
  refine J.open hd ?_
  refine .seq (.text (.as_ rfl rfl (.done (.thenN ?_))))
  refine .seq (.seq (.text (.mv rfl rfl (?_))))
  refine .callR rfl rfl (noneNod hm) rfl rfl (.done (.thenN ?_))
  refine .condF rfl ?_
  refine .skip (.thenN ?_)
  refine .seq (.text (.mv rfl rfl (.mv rfl rfl (?_))))
  refine .callR rfl rfl (atNod hr hs) rfl rfl (.mv rfl rfl (.ext rfl rfl rfl (.ext rfl rfl rfl (.as_ rfl rfl (.as_ rfl rfl (.done (.thenN ?_)))))))
  refine .seq (.seq (.text (.mv rfl rfl (.not rfl rfl (.done (.thenN ?_))))))
  refine .cond rfl (fun hb4 => ?_) (fun hb4 => ?_)
  ·
    refine .seq (.text (.as_ rfl rfl (.done (.thenN ?_))))
    refine .ret (.thenR ?_)
    have his : atIs xs key = false := by simpa using hb4
    refine J.shut fun hd' => ?_
    exact J.retTmp rfl (List.Sublist.refl _) ⟨_, rfl, by rw [his]; rfl, by rw [dropL, his]; exact ⟨_, _, rfl, hd', hr⟩⟩
  ·
    have his : atIs xs key = true := by simpa using hb4
    have hk : atK xs key < xs.length := by unfold atIs at his; simp only [Bool.and_eq_true, decide_eq_true_eq] at his; omega
    have hlen := hr.len
    refine J.front 1 rfl (J.frz hr (RRow.mono RNod.mono) fun h1 hl1 hs1 => ?_)
    obtain ⟨rA, rc, rfl⟩ := hs1.form
    refine .skip (.thenN ?_)
    refine J.cut (ι := Value × Hp) (fun i => SlT i.2 h1 i.1 7 119 (RRow RNod) (xs.take (atK xs key) ++ xs.drop (atK xs key + 1))) (fun i => [(0, .pointer (some ⟨tb, 0, none⟩)), (2, .int .u64 ix)]) (fun _ => h1) (fun i => [i.2, one tb (.cells ⟨[.int .i64 most, i.1, .int .u64 last]⟩ 111 (0, 0))]) ?_ ?_
    ·
      refine .tree2 (.seq [(0, .pure), (2, .pure), (3, .pure), (4, .pure), (5, .read), (6, .pure), (7, .pure), (9, .pure), (10, .pure), (11, .pure), (13, .pure), (14, .pure)] (.both (.seq [(1, .grow)] (.both (.seq [(8, .mut), (12, .grow), (15, .pure), (16, .mut), (17, .pure), (18, .pure), (19, .mut)] .nil) (.seq [(12, .grow), (15, .pure), (8, .mut), (16, .mut), (17, .pure), (18, .pure), (19, .mut)] .nil))) (.seq [(12, .grow), (15, .pure), (1, .grow), (8, .mut), (16, .mut), (17, .pure), (18, .pure), (19, .mut)] .nil))) [917502, 0, 1048563, 1048547, 1048519, 458319, 1048383, 1048095, 0, 1047039, 1044991, 1041407, 0, 1023999, 991231, 929791, 0, 655358, 131071, 0] [0, 0, 0, 4, 8, 16, 0, 96, 130, 0, 512, 1024, 2048, 0, 8192, 20480, 33024, 131071, 262143, 393215] [917504, 983296, 983480, 983472, 983456, 983424, 983424, 983296, 983040, 1022976, 1021952, 1019904, 1015808, 1032192, 1015808, 983040, 917504, 786432, 524288, 0] [.pure, .grow, .pure, .pure, .pure, .read, .pure, .pure, .mut, .pure, .pure, .pure, .grow, .pure, .pure, .pure, .mut, .pure, .pure, .mut] rfl (by kernel_rfl) (by kernel_rfl) ?_
      refine .tSeq (.mv rfl rfl (.mv rfl rfl (.nilOk rfl rfl (.fa rfl rfl (.ld rfl rfl rfl rfl (.mv rfl rfl (.slR (i := 0) (j' := atK xs key) hs1 rfl rfl ⟨_, _, rfl, rfl⟩ (by omega) (by omega) rfl fun v26 hv26 => ?_)))))))
      rw [List.drop_zero] at hv26
      refine .mv rfl rfl (.nilOk rfl rfl (.fa rfl rfl (.mv rfl rfl (.inc rfl rfl (by unfold maxL at hlen; omega) rfl (.done (.thenN ?_))))))
      refine .tBoth ?_ ?_
      ·
        refine .tSeq (.bs [] rfl rfl rfl rfl (by decide) rfl rfl rfl fun b20 => ?_)
        refine .done (.thenN ?_)
        refine .tBoth ?_ ?_
        ·
          refine .tSeq (.appL (xs := []) rfl ⟨[], SlO.mk rfl (by simp [maxL]), fun i hi => by simp at hi⟩ rfl hv26 rfl (by simp; omega) rfl rfl fun v27 m27 hm27 => .ld rfl rfl rfl rfl (.slR (i := atK xs key + 1) (j' := xs.length) hs1 rfl ⟨_, _, rfl, rfl⟩ rfl (by omega) (Nat.le_refl _) rfl fun v34 hv34 => ?_))
          rw [List.take_length] at hv34
          refine .appL rfl hm27 rfl hv34 rfl (by simp; omega) rfl rfl fun v35 m35 hm35 => ?_
          obtain ⟨A35, c35, rfl⟩ := hm35.form
          refine .nilOk rfl rfl (.fa rfl rfl (.stS rfl rfl rfl rfl (.done (.thenN ?_))))
          refine .tNil (.thenN ?_)
          exact J.mid (_, m35) hm35 (.cons rfl (.cons rfl (.nil _))) rfl rfl
        refine .tSeq (.ld rfl rfl rfl rfl (.slR (i := atK xs key + 1) (j' := xs.length) hs1 rfl ⟨_, _, rfl, rfl⟩ rfl (by omega) (Nat.le_refl _) rfl fun v34 hv34 => ?_))
        rw [List.take_length] at hv34
        refine .appL (xs := []) rfl ⟨[], SlO.mk rfl (by simp [maxL]), fun i hi => by simp at hi⟩ rfl hv26 rfl (by simp; omega) rfl rfl fun v27 m27 hm27 => .appL rfl hm27 rfl hv34 rfl (by simp; omega) rfl rfl fun v35 m35 hm35 => ?_
        obtain ⟨A35, c35, rfl⟩ := hm35.form
        refine .nilOk rfl rfl (.fa rfl rfl (.stS rfl rfl rfl rfl (.done (.thenN ?_))))
        refine .tNil (.thenN ?_)
        exact J.mid (_, m35) hm35 (.cons rfl (.cons rfl (.nil _))) rfl rfl
      refine .tSeq (.ld rfl rfl rfl rfl (.slR (i := atK xs key + 1) (j' := xs.length) hs1 rfl ⟨_, _, rfl, rfl⟩ rfl (by omega) (Nat.le_refl _) rfl fun v34 hv34 => ?_))
      rw [List.take_length] at hv34
      refine .bs [] rfl rfl rfl rfl (by decide) rfl rfl rfl fun b20 => ?_
      refine .appL (xs := []) rfl ⟨[], SlO.mk rfl (by simp [maxL]), fun i hi => by simp at hi⟩ rfl hv26 rfl (by simp; omega) rfl rfl fun v27 m27 hm27 => .appL rfl hm27 rfl hv34 rfl (by simp; omega) rfl rfl fun v35 m35 hm35 => ?_
      obtain ⟨A35, c35, rfl⟩ := hm35.form
      refine .nilOk rfl rfl (.fa rfl rfl (.stS rfl rfl rfl rfl (.done (.thenN ?_))))
      refine .tNil (.thenN ?_)
      exact J.mid (_, m35) hm35 (.cons rfl (.cons rfl (.nil _))) rfl rfl
    ·
      rintro ⟨rv', m'⟩ hm'
      dsimp only at hm' ⊢
      refine J.front 1 rfl (J.shut fun hd' => ?_)
      refine .seq (.text (.mv rfl rfl (.mv rfl rfl (?_))))
      refine .callM rfl rfl (raiseNod ⟨_, _, rfl, hd', hm'⟩ hm) rfl rfl fun u40 h40 m40 hl40 hu40 => ?_
      obtain ⟨rfl, rfl, ht'⟩ := hu40
      refine .done (.thenN ?_)
      refine .seq (.text (.as_ rfl rfl (.done (.thenN ?_))))
      refine .ret ?_
      exact J.retTmp rfl (List.Sublist.refl _) ⟨_, rfl, by rw [his]; rfl, by rw [dropL, his]; exact ht'⟩

theorem listONod {tb : Nat} {rv : Value} {most last : Int} {h mr : Hp} {F : Hp → List Hp} {L : List Hp} {xs : List (Row Nod)} [At h L tb (.cells ⟨[.int .i64 most, rv, .int .u64 last]⟩ 111 (0, 0))] [hF : HpIn L mr F] (hr : SlT mr h rv 7 119 (RRow RNod) xs) (hm : most ≠ 0) : FS Go.Proofs.Tryz.prog 83 [.pointer (some ⟨tb, 0, none⟩)] h L (fun v h' ms' => ∃ m', ms' = m' :: L ∧ h' = h ∧ SlT m' h v 7 119 (RRow RNod) xs) := by
  refine FS.enter Go.Proofs.Tryz.func83 rfl rfl fun w0 => ?_
  refine .seq (.text (.as_ rfl rfl (.done (.thenN ?_))))
  refine .seq (.seq (.text (.mv rfl rfl (?_))))
  refine .callR rfl rfl (noneNod hm) rfl rfl (.done (.thenN ?_))
  refine .condF rfl ?_
  refine .skip (.thenN ?_)
  refine .seq (.text (.bs [] rfl rfl rfl rfl (by decide) rfl rfl rfl fun b5 => ?_))
  refine .mv rfl rfl (.nilOk rfl rfl (.fa rfl rfl (.ld rfl rfl rfl rfl (.appT (xs := []) rfl ⟨[], SlO.mk rfl (by simp [maxL]), fun i hi => by simp at hi⟩ rfl hr rfl (by simpa using hr.len) rfl rfl fun v m hm' => .as_ rfl rfl (.done (.thenN ?_))))))
  refine .ret ?_
  exact J.retTmp rfl (List.Sublist.refl _) ⟨_, rfl, rfl, hm'⟩

theorem copyNod {tb : Nat} {rv : Value} {most last : Int} {h mr : Hp} {F : Hp → List Hp} {L : List Hp} {xs : List (Row Nod)} [At h L tb (.cells ⟨[.int .i64 most, rv, .int .u64 last]⟩ 111 (0, 0))] [hF : HpIn L mr F] (hr : SlT mr h rv 7 119 (RRow RNod) xs) (hm : most ≠ 0) : FS Go.Proofs.Tryz.prog 79 [.pointer (some ⟨tb, 0, none⟩)] h L (fun v h' ms' => ∃ m', ms' = m' :: L ∧ h' = h ∧ ∃ tb', v = .pointer (some ⟨tb', 0, none⟩) ∧ Tb 7 119 111 RNod m' h tb' most xs last) := by
  refine FS.enter Go.Proofs.Tryz.func79 rfl rfl fun w0 => ?_
  refine .seq (.text (.as_ rfl rfl (.done (.thenN ?_))))
  refine .seq (.seq (.text (.mv rfl rfl (?_))))
  refine .callR rfl rfl (noneNod hm) rfl rfl (.done (.thenN ?_))
  refine .condF rfl ?_
  refine .skip (.thenN ?_)
  refine .seq (.draw [(0, .pure), (1, .pure), (2, .pure), (3, .read), (4, .pure), (6, .pure), (7, .pure), (8, .pure), (9, .read), (5, .grow), (10, .pure), (11, .grow), (12, .pure)] rfl (by kernel_rfl) (.mv rfl rfl (.nilOk rfl rfl (.fa rfl rfl (.ld rfl rfl rfl rfl (.mv rfl rfl (.mv rfl rfl (.nilOk rfl rfl (.fa rfl rfl (.ld rfl rfl rfl rfl (?_)))))))))))
  refine .callN rfl rfl (listONod hr hm) rfl rfl fun u10 h10 m10 hl10 hu10 => ?_
  obtain ⟨rfl, hs10⟩ := hu10
  obtain ⟨A10, c10, rfl⟩ := hs10.form
  refine .bld [_, _, _] rfl (by rfl) rfl ?_
  refine .box (cs := [_, _, _]) rfl rfl rfl rfl fun b16 => .as_ rfl rfl (.done (.thenN ?_))
  refine .ret ?_
  refine J.shut fun hd => ?_
  exact J.retTmp rfl (List.Sublist.refl _) ⟨_, rfl, rfl, _, rfl, _, _, rfl, hd, hs10⟩

theorem dropSvc {h m : Hp} {tb : Nat} {most last ix : Int} {xs : List (Row Svc)} {key : ByteArray} (ht : Tb 10 131 114 RSvc m h tb most xs last) (hs : Srt xs) (hm : most ≠ 0) : FM Go.Proofs.Tryz.prog 68 [.pointer (some ⟨tb, 0, none⟩), .string key, .int .u64 ix] h m (fun v h' m' => v = .bool (atIs xs key) ∧ Tb 10 131 114 RSvc m' h' tb most (dropL xs key) (if atIs xs key = true then max last ix else last)) := by
  obtain ⟨rv, mr, rfl, hd, hr⟩ := ht
  refine FS.enter Go.Proofs.Tryz.func68 rfl rfl fun w0 => ?_
  refine J.open hd ?_
  refine .seq (.text (.as_ rfl rfl (.done (.thenN ?_))))
  refine .seq (.seq (.text (.mv rfl rfl (?_))))
  refine .callR rfl rfl (noneSvc hm) rfl rfl (.done (.thenN ?_))
  refine .condF rfl ?_
  refine .skip (.thenN ?_)
  refine .seq (.text (.mv rfl rfl (.mv rfl rfl (?_))))
  refine .callR rfl rfl (atSvc hr hs) rfl rfl (.mv rfl rfl (.ext rfl rfl rfl (.ext rfl rfl rfl (.as_ rfl rfl (.as_ rfl rfl (.done (.thenN ?_)))))))
  refine .seq (.seq (.text (.mv rfl rfl (.not rfl rfl (.done (.thenN ?_))))))
  refine .cond rfl (fun hb4 => ?_) (fun hb4 => ?_)
  ·
    refine .seq (.text (.as_ rfl rfl (.done (.thenN ?_))))
    refine .ret (.thenR ?_)
    have his : atIs xs key = false := by simpa using hb4
    refine J.shut fun hd' => ?_
    exact J.retTmp rfl (List.Sublist.refl _) ⟨_, rfl, by rw [his]; rfl, by rw [dropL, his]; exact ⟨_, _, rfl, hd', hr⟩⟩
  ·
    have his : atIs xs key = true := by simpa using hb4
    have hk : atK xs key < xs.length := by unfold atIs at his; simp only [Bool.and_eq_true, decide_eq_true_eq] at his; omega
    have hlen := hr.len
    refine J.front 1 rfl (J.frz hr (RRow.mono RSvc.mono) fun h1 hl1 hs1 => ?_)
    obtain ⟨rA, rc, rfl⟩ := hs1.form
    refine .skip (.thenN ?_)
    refine J.cut (ι := Value × Hp) (fun i => SlT i.2 h1 i.1 10 131 (RRow RSvc) (xs.take (atK xs key) ++ xs.drop (atK xs key + 1))) (fun i => [(0, .pointer (some ⟨tb, 0, none⟩)), (2, .int .u64 ix)]) (fun _ => h1) (fun i => [i.2, one tb (.cells ⟨[.int .i64 most, i.1, .int .u64 last]⟩ 114 (0, 0))]) ?_ ?_
    ·
      refine .tree2 (.seq [(0, .pure), (2, .pure), (3, .pure), (4, .pure), (5, .read), (6, .pure), (7, .pure), (9, .pure), (10, .pure), (11, .pure), (13, .pure), (14, .pure)] (.both (.seq [(1, .grow)] (.both (.seq [(8, .mut), (12, .grow), (15, .pure), (16, .mut), (17, .pure), (18, .pure), (19, .mut)] .nil) (.seq [(12, .grow), (15, .pure), (8, .mut), (16, .mut), (17, .pure), (18, .pure), (19, .mut)] .nil))) (.seq [(12, .grow), (15, .pure), (1, .grow), (8, .mut), (16, .mut), (17, .pure), (18, .pure), (19, .mut)] .nil))) [917502, 0, 1048563, 1048547, 1048519, 458319, 1048383, 1048095, 0, 1047039, 1044991, 1041407, 0, 1023999, 991231, 929791, 0, 655358, 131071, 0] [0, 0, 0, 4, 8, 16, 0, 96, 130, 0, 512, 1024, 2048, 0, 8192, 20480, 33024, 131071, 262143, 393215] [917504, 983296, 983480, 983472, 983456, 983424, 983424, 983296, 983040, 1022976, 1021952, 1019904, 1015808, 1032192, 1015808, 983040, 917504, 786432, 524288, 0] [.pure, .grow, .pure, .pure, .pure, .read, .pure, .pure, .mut, .pure, .pure, .pure, .grow, .pure, .pure, .pure, .mut, .pure, .pure, .mut] rfl (by kernel_rfl) (by kernel_rfl) ?_
      refine .tSeq (.mv rfl rfl (.mv rfl rfl (.nilOk rfl rfl (.fa rfl rfl (.ld rfl rfl rfl rfl (.mv rfl rfl (.slR (i := 0) (j' := atK xs key) hs1 rfl rfl ⟨_, _, rfl, rfl⟩ (by omega) (by omega) rfl fun v26 hv26 => ?_)))))))
      rw [List.drop_zero] at hv26
      refine .mv rfl rfl (.nilOk rfl rfl (.fa rfl rfl (.mv rfl rfl (.inc rfl rfl (by unfold maxL at hlen; omega) rfl (.done (.thenN ?_))))))
      refine .tBoth ?_ ?_
      ·
        refine .tSeq (.bs [] rfl rfl rfl rfl (by decide) rfl rfl rfl fun b20 => ?_)
        refine .done (.thenN ?_)
        refine .tBoth ?_ ?_
        ·
          refine .tSeq (.appL (xs := []) rfl ⟨[], SlO.mk rfl (by simp [maxL]), fun i hi => by simp at hi⟩ rfl hv26 rfl (by simp; omega) rfl rfl fun v27 m27 hm27 => .ld rfl rfl rfl rfl (.slR (i := atK xs key + 1) (j' := xs.length) hs1 rfl ⟨_, _, rfl, rfl⟩ rfl (by omega) (Nat.le_refl _) rfl fun v34 hv34 => ?_))
          rw [List.take_length] at hv34
          refine .appL rfl hm27 rfl hv34 rfl (by simp; omega) rfl rfl fun v35 m35 hm35 => ?_
          obtain ⟨A35, c35, rfl⟩ := hm35.form
          refine .nilOk rfl rfl (.fa rfl rfl (.stS rfl rfl rfl rfl (.done (.thenN ?_))))
          refine .tNil (.thenN ?_)
          exact J.mid (_, m35) hm35 (.cons rfl (.cons rfl (.nil _))) rfl rfl
        refine .tSeq (.ld rfl rfl rfl rfl (.slR (i := atK xs key + 1) (j' := xs.length) hs1 rfl ⟨_, _, rfl, rfl⟩ rfl (by omega) (Nat.le_refl _) rfl fun v34 hv34 => ?_))
        rw [List.take_length] at hv34
        refine .appL (xs := []) rfl ⟨[], SlO.mk rfl (by simp [maxL]), fun i hi => by simp at hi⟩ rfl hv26 rfl (by simp; omega) rfl rfl fun v27 m27 hm27 => .appL rfl hm27 rfl hv34 rfl (by simp; omega) rfl rfl fun v35 m35 hm35 => ?_
        obtain ⟨A35, c35, rfl⟩ := hm35.form
        refine .nilOk rfl rfl (.fa rfl rfl (.stS rfl rfl rfl rfl (.done (.thenN ?_))))
        refine .tNil (.thenN ?_)
        exact J.mid (_, m35) hm35 (.cons rfl (.cons rfl (.nil _))) rfl rfl
      refine .tSeq (.ld rfl rfl rfl rfl (.slR (i := atK xs key + 1) (j' := xs.length) hs1 rfl ⟨_, _, rfl, rfl⟩ rfl (by omega) (Nat.le_refl _) rfl fun v34 hv34 => ?_))
      rw [List.take_length] at hv34
      refine .bs [] rfl rfl rfl rfl (by decide) rfl rfl rfl fun b20 => ?_
      refine .appL (xs := []) rfl ⟨[], SlO.mk rfl (by simp [maxL]), fun i hi => by simp at hi⟩ rfl hv26 rfl (by simp; omega) rfl rfl fun v27 m27 hm27 => .appL rfl hm27 rfl hv34 rfl (by simp; omega) rfl rfl fun v35 m35 hm35 => ?_
      obtain ⟨A35, c35, rfl⟩ := hm35.form
      refine .nilOk rfl rfl (.fa rfl rfl (.stS rfl rfl rfl rfl (.done (.thenN ?_))))
      refine .tNil (.thenN ?_)
      exact J.mid (_, m35) hm35 (.cons rfl (.cons rfl (.nil _))) rfl rfl
    ·
      rintro ⟨rv', m'⟩ hm'
      dsimp only at hm' ⊢
      refine J.front 1 rfl (J.shut fun hd' => ?_)
      refine .seq (.text (.mv rfl rfl (.mv rfl rfl (?_))))
      refine .callM rfl rfl (raiseSvc ⟨_, _, rfl, hd', hm'⟩ hm) rfl rfl fun u40 h40 m40 hl40 hu40 => ?_
      obtain ⟨rfl, rfl, ht'⟩ := hu40
      refine .done (.thenN ?_)
      refine .seq (.text (.as_ rfl rfl (.done (.thenN ?_))))
      refine .ret ?_
      exact J.retTmp rfl (List.Sublist.refl _) ⟨_, rfl, by rw [his]; rfl, by rw [dropL, his]; exact ht'⟩

theorem listOSvc {tb : Nat} {rv : Value} {most last : Int} {h mr : Hp} {F : Hp → List Hp} {L : List Hp} {xs : List (Row Svc)} [At h L tb (.cells ⟨[.int .i64 most, rv, .int .u64 last]⟩ 114 (0, 0))] [hF : HpIn L mr F] (hr : SlT mr h rv 10 131 (RRow RSvc) xs) (hm : most ≠ 0) : FS Go.Proofs.Tryz.prog 84 [.pointer (some ⟨tb, 0, none⟩)] h L (fun v h' ms' => ∃ m', ms' = m' :: L ∧ h' = h ∧ SlT m' h v 10 131 (RRow RSvc) xs) := by
  refine FS.enter Go.Proofs.Tryz.func84 rfl rfl fun w0 => ?_
  refine .seq (.text (.as_ rfl rfl (.done (.thenN ?_))))
  refine .seq (.seq (.text (.mv rfl rfl (?_))))
  refine .callR rfl rfl (noneSvc hm) rfl rfl (.done (.thenN ?_))
  refine .condF rfl ?_
  refine .skip (.thenN ?_)
  refine .seq (.text (.bs [] rfl rfl rfl rfl (by decide) rfl rfl rfl fun b5 => ?_))
  refine .mv rfl rfl (.nilOk rfl rfl (.fa rfl rfl (.ld rfl rfl rfl rfl (.appT (xs := []) rfl ⟨[], SlO.mk rfl (by simp [maxL]), fun i hi => by simp at hi⟩ rfl hr rfl (by simpa using hr.len) rfl rfl fun v m hm' => .as_ rfl rfl (.done (.thenN ?_))))))
  refine .ret ?_
  exact J.retTmp rfl (List.Sublist.refl _) ⟨_, rfl, rfl, hm'⟩

theorem copySvc {tb : Nat} {rv : Value} {most last : Int} {h mr : Hp} {F : Hp → List Hp} {L : List Hp} {xs : List (Row Svc)} [At h L tb (.cells ⟨[.int .i64 most, rv, .int .u64 last]⟩ 114 (0, 0))] [hF : HpIn L mr F] (hr : SlT mr h rv 10 131 (RRow RSvc) xs) (hm : most ≠ 0) : FS Go.Proofs.Tryz.prog 80 [.pointer (some ⟨tb, 0, none⟩)] h L (fun v h' ms' => ∃ m', ms' = m' :: L ∧ h' = h ∧ ∃ tb', v = .pointer (some ⟨tb', 0, none⟩) ∧ Tb 10 131 114 RSvc m' h tb' most xs last) := by
  refine FS.enter Go.Proofs.Tryz.func80 rfl rfl fun w0 => ?_
  refine .seq (.text (.as_ rfl rfl (.done (.thenN ?_))))
  refine .seq (.seq (.text (.mv rfl rfl (?_))))
  refine .callR rfl rfl (noneSvc hm) rfl rfl (.done (.thenN ?_))
  refine .condF rfl ?_
  refine .skip (.thenN ?_)
  refine .seq (.draw [(0, .pure), (1, .pure), (2, .pure), (3, .read), (4, .pure), (6, .pure), (7, .pure), (8, .pure), (9, .read), (5, .grow), (10, .pure), (11, .grow), (12, .pure)] rfl (by kernel_rfl) (.mv rfl rfl (.nilOk rfl rfl (.fa rfl rfl (.ld rfl rfl rfl rfl (.mv rfl rfl (.mv rfl rfl (.nilOk rfl rfl (.fa rfl rfl (.ld rfl rfl rfl rfl (?_)))))))))))
  refine .callN rfl rfl (listOSvc hr hm) rfl rfl fun u10 h10 m10 hl10 hu10 => ?_
  obtain ⟨rfl, hs10⟩ := hu10
  obtain ⟨A10, c10, rfl⟩ := hs10.form
  refine .bld [_, _, _] rfl (by rfl) rfl ?_
  refine .box (cs := [_, _, _]) rfl rfl rfl rfl fun b16 => .as_ rfl rfl (.done (.thenN ?_))
  refine .ret ?_
  refine J.shut fun hd => ?_
  exact J.retTmp rfl (List.Sublist.refl _) ⟨_, rfl, rfl, _, rfl, _, _, rfl, hd, hs10⟩

theorem dropChk {h m : Hp} {tb : Nat} {most last ix : Int} {xs : List (Row Chk)} {key : ByteArray} (ht : Tb 10 93 117 RChk m h tb most xs last) (hs : Srt xs) (hm : most ≠ 0) : FM Go.Proofs.Tryz.prog 50 [.pointer (some ⟨tb, 0, none⟩), .string key, .int .u64 ix] h m (fun v h' m' => v = .bool (atIs xs key) ∧ Tb 10 93 117 RChk m' h' tb most (dropL xs key) (if atIs xs key = true then max last ix else last)) := by
  obtain ⟨rv, mr, rfl, hd, hr⟩ := ht
  refine FS.enter Go.Proofs.Tryz.func50 rfl rfl fun w0 => ?_
  refine J.open hd ?_
  refine .seq (.text (.as_ rfl rfl (.done (.thenN ?_))))
  refine .seq (.seq (.text (.mv rfl rfl (?_))))
  refine .callR rfl rfl (noneChk hm) rfl rfl (.done (.thenN ?_))
  refine .condF rfl ?_
  refine .skip (.thenN ?_)
  refine .seq (.text (.mv rfl rfl (.mv rfl rfl (?_))))
  refine .callR rfl rfl (atChk hr hs) rfl rfl (.mv rfl rfl (.ext rfl rfl rfl (.ext rfl rfl rfl (.as_ rfl rfl (.as_ rfl rfl (.done (.thenN ?_)))))))
  refine .seq (.seq (.text (.mv rfl rfl (.not rfl rfl (.done (.thenN ?_))))))
  refine .cond rfl (fun hb4 => ?_) (fun hb4 => ?_)
  ·
    refine .seq (.text (.as_ rfl rfl (.done (.thenN ?_))))
    refine .ret (.thenR ?_)
    have his : atIs xs key = false := by simpa using hb4
    refine J.shut fun hd' => ?_
    exact J.retTmp rfl (List.Sublist.refl _) ⟨_, rfl, by rw [his]; rfl, by rw [dropL, his]; exact ⟨_, _, rfl, hd', hr⟩⟩
  ·
    have his : atIs xs key = true := by simpa using hb4
    have hk : atK xs key < xs.length := by unfold atIs at his; simp only [Bool.and_eq_true, decide_eq_true_eq] at his; omega
    have hlen := hr.len
    refine J.front 1 rfl (J.frz hr (RRow.mono RChk.mono) fun h1 hl1 hs1 => ?_)
    obtain ⟨rA, rc, rfl⟩ := hs1.form
    refine .skip (.thenN ?_)
    refine J.cut (ι := Value × Hp) (fun i => SlT i.2 h1 i.1 10 93 (RRow RChk) (xs.take (atK xs key) ++ xs.drop (atK xs key + 1))) (fun i => [(0, .pointer (some ⟨tb, 0, none⟩)), (2, .int .u64 ix)]) (fun _ => h1) (fun i => [i.2, one tb (.cells ⟨[.int .i64 most, i.1, .int .u64 last]⟩ 117 (0, 0))]) ?_ ?_
    ·
      refine .tree2 (.seq [(0, .pure), (2, .pure), (3, .pure), (4, .pure), (5, .read), (6, .pure), (7, .pure), (9, .pure), (10, .pure), (11, .pure), (13, .pure), (14, .pure)] (.both (.seq [(1, .grow)] (.both (.seq [(8, .mut), (12, .grow), (15, .pure), (16, .mut), (17, .pure), (18, .pure), (19, .mut)] .nil) (.seq [(12, .grow), (15, .pure), (8, .mut), (16, .mut), (17, .pure), (18, .pure), (19, .mut)] .nil))) (.seq [(12, .grow), (15, .pure), (1, .grow), (8, .mut), (16, .mut), (17, .pure), (18, .pure), (19, .mut)] .nil))) [917502, 0, 1048563, 1048547, 1048519, 458319, 1048383, 1048095, 0, 1047039, 1044991, 1041407, 0, 1023999, 991231, 929791, 0, 655358, 131071, 0] [0, 0, 0, 4, 8, 16, 0, 96, 130, 0, 512, 1024, 2048, 0, 8192, 20480, 33024, 131071, 262143, 393215] [917504, 983296, 983480, 983472, 983456, 983424, 983424, 983296, 983040, 1022976, 1021952, 1019904, 1015808, 1032192, 1015808, 983040, 917504, 786432, 524288, 0] [.pure, .grow, .pure, .pure, .pure, .read, .pure, .pure, .mut, .pure, .pure, .pure, .grow, .pure, .pure, .pure, .mut, .pure, .pure, .mut] rfl (by kernel_rfl) (by kernel_rfl) ?_
      refine .tSeq (.mv rfl rfl (.mv rfl rfl (.nilOk rfl rfl (.fa rfl rfl (.ld rfl rfl rfl rfl (.mv rfl rfl (.slR (i := 0) (j' := atK xs key) hs1 rfl rfl ⟨_, _, rfl, rfl⟩ (by omega) (by omega) rfl fun v26 hv26 => ?_)))))))
      rw [List.drop_zero] at hv26
      refine .mv rfl rfl (.nilOk rfl rfl (.fa rfl rfl (.mv rfl rfl (.inc rfl rfl (by unfold maxL at hlen; omega) rfl (.done (.thenN ?_))))))
      refine .tBoth ?_ ?_
      ·
        refine .tSeq (.bs [] rfl rfl rfl rfl (by decide) rfl rfl rfl fun b20 => ?_)
        refine .done (.thenN ?_)
        refine .tBoth ?_ ?_
        ·
          refine .tSeq (.appL (xs := []) rfl ⟨[], SlO.mk rfl (by simp [maxL]), fun i hi => by simp at hi⟩ rfl hv26 rfl (by simp; omega) rfl rfl fun v27 m27 hm27 => .ld rfl rfl rfl rfl (.slR (i := atK xs key + 1) (j' := xs.length) hs1 rfl ⟨_, _, rfl, rfl⟩ rfl (by omega) (Nat.le_refl _) rfl fun v34 hv34 => ?_))
          rw [List.take_length] at hv34
          refine .appL rfl hm27 rfl hv34 rfl (by simp; omega) rfl rfl fun v35 m35 hm35 => ?_
          obtain ⟨A35, c35, rfl⟩ := hm35.form
          refine .nilOk rfl rfl (.fa rfl rfl (.stS rfl rfl rfl rfl (.done (.thenN ?_))))
          refine .tNil (.thenN ?_)
          exact J.mid (_, m35) hm35 (.cons rfl (.cons rfl (.nil _))) rfl rfl
        refine .tSeq (.ld rfl rfl rfl rfl (.slR (i := atK xs key + 1) (j' := xs.length) hs1 rfl ⟨_, _, rfl, rfl⟩ rfl (by omega) (Nat.le_refl _) rfl fun v34 hv34 => ?_))
        rw [List.take_length] at hv34
        refine .appL (xs := []) rfl ⟨[], SlO.mk rfl (by simp [maxL]), fun i hi => by simp at hi⟩ rfl hv26 rfl (by simp; omega) rfl rfl fun v27 m27 hm27 => .appL rfl hm27 rfl hv34 rfl (by simp; omega) rfl rfl fun v35 m35 hm35 => ?_
        obtain ⟨A35, c35, rfl⟩ := hm35.form
        refine .nilOk rfl rfl (.fa rfl rfl (.stS rfl rfl rfl rfl (.done (.thenN ?_))))
        refine .tNil (.thenN ?_)
        exact J.mid (_, m35) hm35 (.cons rfl (.cons rfl (.nil _))) rfl rfl
      refine .tSeq (.ld rfl rfl rfl rfl (.slR (i := atK xs key + 1) (j' := xs.length) hs1 rfl ⟨_, _, rfl, rfl⟩ rfl (by omega) (Nat.le_refl _) rfl fun v34 hv34 => ?_))
      rw [List.take_length] at hv34
      refine .bs [] rfl rfl rfl rfl (by decide) rfl rfl rfl fun b20 => ?_
      refine .appL (xs := []) rfl ⟨[], SlO.mk rfl (by simp [maxL]), fun i hi => by simp at hi⟩ rfl hv26 rfl (by simp; omega) rfl rfl fun v27 m27 hm27 => .appL rfl hm27 rfl hv34 rfl (by simp; omega) rfl rfl fun v35 m35 hm35 => ?_
      obtain ⟨A35, c35, rfl⟩ := hm35.form
      refine .nilOk rfl rfl (.fa rfl rfl (.stS rfl rfl rfl rfl (.done (.thenN ?_))))
      refine .tNil (.thenN ?_)
      exact J.mid (_, m35) hm35 (.cons rfl (.cons rfl (.nil _))) rfl rfl
    ·
      rintro ⟨rv', m'⟩ hm'
      dsimp only at hm' ⊢
      refine J.front 1 rfl (J.shut fun hd' => ?_)
      refine .seq (.text (.mv rfl rfl (.mv rfl rfl (?_))))
      refine .callM rfl rfl (raiseChk ⟨_, _, rfl, hd', hm'⟩ hm) rfl rfl fun u40 h40 m40 hl40 hu40 => ?_
      obtain ⟨rfl, rfl, ht'⟩ := hu40
      refine .done (.thenN ?_)
      refine .seq (.text (.as_ rfl rfl (.done (.thenN ?_))))
      refine .ret ?_
      exact J.retTmp rfl (List.Sublist.refl _) ⟨_, rfl, by rw [his]; rfl, by rw [dropL, his]; exact ht'⟩

theorem listOChk {tb : Nat} {rv : Value} {most last : Int} {h mr : Hp} {F : Hp → List Hp} {L : List Hp} {xs : List (Row Chk)} [At h L tb (.cells ⟨[.int .i64 most, rv, .int .u64 last]⟩ 117 (0, 0))] [hF : HpIn L mr F] (hr : SlT mr h rv 10 93 (RRow RChk) xs) (hm : most ≠ 0) : FS Go.Proofs.Tryz.prog 85 [.pointer (some ⟨tb, 0, none⟩)] h L (fun v h' ms' => ∃ m', ms' = m' :: L ∧ h' = h ∧ SlT m' h v 10 93 (RRow RChk) xs) := by
  refine FS.enter Go.Proofs.Tryz.func85 rfl rfl fun w0 => ?_
  refine .seq (.text (.as_ rfl rfl (.done (.thenN ?_))))
  refine .seq (.seq (.text (.mv rfl rfl (?_))))
  refine .callR rfl rfl (noneChk hm) rfl rfl (.done (.thenN ?_))
  refine .condF rfl ?_
  refine .skip (.thenN ?_)
  refine .seq (.text (.bs [] rfl rfl rfl rfl (by decide) rfl rfl rfl fun b5 => ?_))
  refine .mv rfl rfl (.nilOk rfl rfl (.fa rfl rfl (.ld rfl rfl rfl rfl (.appT (xs := []) rfl ⟨[], SlO.mk rfl (by simp [maxL]), fun i hi => by simp at hi⟩ rfl hr rfl (by simpa using hr.len) rfl rfl fun v m hm' => .as_ rfl rfl (.done (.thenN ?_))))))
  refine .ret ?_
  exact J.retTmp rfl (List.Sublist.refl _) ⟨_, rfl, rfl, hm'⟩

theorem copyChk {tb : Nat} {rv : Value} {most last : Int} {h mr : Hp} {F : Hp → List Hp} {L : List Hp} {xs : List (Row Chk)} [At h L tb (.cells ⟨[.int .i64 most, rv, .int .u64 last]⟩ 117 (0, 0))] [hF : HpIn L mr F] (hr : SlT mr h rv 10 93 (RRow RChk) xs) (hm : most ≠ 0) : FS Go.Proofs.Tryz.prog 81 [.pointer (some ⟨tb, 0, none⟩)] h L (fun v h' ms' => ∃ m', ms' = m' :: L ∧ h' = h ∧ ∃ tb', v = .pointer (some ⟨tb', 0, none⟩) ∧ Tb 10 93 117 RChk m' h tb' most xs last) := by
  refine FS.enter Go.Proofs.Tryz.func81 rfl rfl fun w0 => ?_
  refine .seq (.text (.as_ rfl rfl (.done (.thenN ?_))))
  refine .seq (.seq (.text (.mv rfl rfl (?_))))
  refine .callR rfl rfl (noneChk hm) rfl rfl (.done (.thenN ?_))
  refine .condF rfl ?_
  refine .skip (.thenN ?_)
  refine .seq (.draw [(0, .pure), (1, .pure), (2, .pure), (3, .read), (4, .pure), (6, .pure), (7, .pure), (8, .pure), (9, .read), (5, .grow), (10, .pure), (11, .grow), (12, .pure)] rfl (by kernel_rfl) (.mv rfl rfl (.nilOk rfl rfl (.fa rfl rfl (.ld rfl rfl rfl rfl (.mv rfl rfl (.mv rfl rfl (.nilOk rfl rfl (.fa rfl rfl (.ld rfl rfl rfl rfl (?_)))))))))))
  refine .callN rfl rfl (listOChk hr hm) rfl rfl fun u10 h10 m10 hl10 hu10 => ?_
  obtain ⟨rfl, hs10⟩ := hu10
  obtain ⟨A10, c10, rfl⟩ := hs10.form
  refine .bld [_, _, _] rfl (by rfl) rfl ?_
  refine .box (cs := [_, _, _]) rfl rfl rfl rfl fun b16 => .as_ rfl rfl (.done (.thenN ?_))
  refine .ret ?_
  refine J.shut fun hd => ?_
  exact J.retTmp rfl (List.Sublist.refl _) ⟨_, rfl, rfl, _, rfl, _, _, rfl, hd, hs10⟩
end Go.Sod
