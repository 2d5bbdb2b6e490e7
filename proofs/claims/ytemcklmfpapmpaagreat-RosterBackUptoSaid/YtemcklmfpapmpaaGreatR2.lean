/-
  The tables' Get, walked. Conditions: none.
-/
import Derived.Test.YtemcklmfpapmpaaGreatR1
namespace Go.Sod
set_option linter.unusedVariables false
set_option linter.unusedSimpArgs false
set_option maxRecDepth 10000
set_option maxHeartbeats 4000000
theorem getNod {tb : Nat} {rv : Value} {most last : Int} {h mr : Hp} {F : Hp → List Hp} {L : List Hp} {key : ByteArray} {xs : List (Row Nod)} [At h L tb (.cells ⟨[.int .i64 most, rv, .int .u64 last]⟩ 111 (0, 0))] [HpIn L mr F] (hr : SlT mr h rv 7 119 (RRow RNod) xs) (hs : Srt xs) (hm : most ≠ 0) : FRx Go.Proofs.Tryz.prog 93 [.pointer (some ⟨tb, 0, none⟩), .string key] h L (fun v => ∃ vs, v = .tuple ⟨[.agg ⟨vs⟩, .bool (atIs xs key)]⟩ ∧ vs.length = 7 ∧ vs.all oneV = true ∧ (atIs xs key = true → ∃ r, xs[atK xs key]? = some r ∧ RRow RNod h r vs)) := by
  refine FS.enter Go.Proofs.Tryz.func93 rfl rfl fun w0 => ?_
  refine .seq (.text (.alloc (cs := [_, _, _, _, _, _, _]) rfl rfl rfl fun b4 => .as_ rfl rfl (.done (.thenN ?_))))
  refine .seq (.seq (.text (.mv rfl rfl (?_))))
  refine .callR rfl rfl (noneNod hm) rfl rfl (.done (.thenN ?_))
  refine .condF rfl ?_
  refine .skip (.thenN ?_)
  refine .seq (.text (.mv rfl rfl (.mv rfl rfl (?_))))
  refine .callR rfl rfl (atNod hr hs) rfl rfl (.mv rfl rfl (.ext rfl rfl rfl (.ext rfl rfl rfl (.as_ rfl rfl (.as_ rfl rfl (.done (.thenN ?_)))))))
  refine .seq (.seq (.text (.mv rfl rfl (.not rfl rfl (.done (.thenN ?_))))))
  refine .cond rfl (fun hb4 => ?_) (fun hb4 => ?_)
  ·
    refine .seq (.text (.bld [_, _, _, _, _, _, _] rfl (by rfl) rfl ?_))
    refine .stW rfl rfl rfl rfl rfl rfl (.as_ rfl rfl (.done (.thenN ?_)))
    refine .ret (.thenR ?_)
    exact J.retAT rfl rfl rfl rfl (.cons _ (List.Sublist.refl _)) ⟨⟨_, by rw [show atIs xs key = false from by simpa using hb4], rfl, rfl, fun e => by simp [e] at hb4⟩, rfl, rfl⟩
  ·
    have his : atIs xs key = true := by simpa using hb4
    have hk : atK xs key < xs.length := by unfold atIs at his; simp only [Bool.and_eq_true, decide_eq_true_eq] at his; omega
    refine .skip (.thenN ?_)
    refine .seq (.text (.mv rfl rfl (.nilOk rfl rfl (.fa rfl rfl (.ld rfl rfl rfl rfl (.mv rfl rfl (.ixT (i := atK xs key) hr rfl rfl rfl hk rfl (.ldT (i := atK xs key) hr hk rfl rfl rfl fun vs hvs => ?_))))))))
    obtain ⟨ws, rfl, rfl⟩ := id hvs
    refine .stW rfl rfl rfl rfl rfl rfl (.as_ rfl rfl (.done (.thenN ?_)))
    refine .ret ?_
    exact J.retAT rfl rfl rfl rfl (.cons _ (List.Sublist.refl _)) ⟨⟨_, by rw [show atIs xs key = true from by simpa using hb4], rfl, rfl, fun _ => ⟨_, List.getElem?_eq_getElem hk, hvs⟩⟩, rfl, rfl⟩

theorem getSvc {tb : Nat} {rv : Value} {most last : Int} {h mr : Hp} {F : Hp → List Hp} {L : List Hp} {key : ByteArray} {xs : List (Row Svc)} [At h L tb (.cells ⟨[.int .i64 most, rv, .int .u64 last]⟩ 114 (0, 0))] [HpIn L mr F] (hr : SlT mr h rv 10 131 (RRow RSvc) xs) (hs : Srt xs) (hm : most ≠ 0) : FRx Go.Proofs.Tryz.prog 87 [.pointer (some ⟨tb, 0, none⟩), .string key] h L (fun v => ∃ vs, v = .tuple ⟨[.agg ⟨vs⟩, .bool (atIs xs key)]⟩ ∧ vs.length = 10 ∧ vs.all oneV = true ∧ (atIs xs key = true → ∃ r, xs[atK xs key]? = some r ∧ RRow RSvc h r vs)) := by
  refine FS.enter Go.Proofs.Tryz.func87 rfl rfl fun w0 => ?_
  refine .seq (.text (.alloc (cs := [_, _, _, _, _, _, _, _, _, _]) rfl rfl rfl fun b4 => .as_ rfl rfl (.done (.thenN ?_))))
  refine .seq (.seq (.text (.mv rfl rfl (?_))))
  refine .callR rfl rfl (noneSvc hm) rfl rfl (.done (.thenN ?_))
  refine .condF rfl ?_
  refine .skip (.thenN ?_)
  refine .seq (.text (.mv rfl rfl (.mv rfl rfl (?_))))
  refine .callR rfl rfl (atSvc hr hs) rfl rfl (.mv rfl rfl (.ext rfl rfl rfl (.ext rfl rfl rfl (.as_ rfl rfl (.as_ rfl rfl (.done (.thenN ?_)))))))
  refine .seq (.seq (.text (.mv rfl rfl (.not rfl rfl (.done (.thenN ?_))))))
  refine .cond rfl (fun hb4 => ?_) (fun hb4 => ?_)
  ·
    refine .seq (.text (.bld [_, _, _, _, _, _, _, _, _, _] rfl (by rfl) rfl ?_))
    refine .stW rfl rfl rfl rfl rfl rfl (.as_ rfl rfl (.done (.thenN ?_)))
    refine .ret (.thenR ?_)
    exact J.retAT rfl rfl rfl rfl (.cons _ (List.Sublist.refl _)) ⟨⟨_, by rw [show atIs xs key = false from by simpa using hb4], rfl, rfl, fun e => by simp [e] at hb4⟩, rfl, rfl⟩
  ·
    have his : atIs xs key = true := by simpa using hb4
    have hk : atK xs key < xs.length := by unfold atIs at his; simp only [Bool.and_eq_true, decide_eq_true_eq] at his; omega
    refine .skip (.thenN ?_)
    refine .seq (.text (.mv rfl rfl (.nilOk rfl rfl (.fa rfl rfl (.ld rfl rfl rfl rfl (.mv rfl rfl (.ixT (i := atK xs key) hr rfl rfl rfl hk rfl (.ldT (i := atK xs key) hr hk rfl rfl rfl fun vs hvs => ?_))))))))
    obtain ⟨ws, rfl, tv, rfl, ht⟩ := id hvs
    obtain ⟨tA, tc, rfl⟩ := ht.form
    refine .stW rfl rfl rfl rfl rfl rfl (.as_ rfl rfl (.done (.thenN ?_)))
    refine .ret ?_
    exact J.retAT rfl rfl rfl rfl (.cons _ (List.Sublist.refl _)) ⟨⟨_, by rw [show atIs xs key = true from by simpa using hb4], rfl, rfl, fun _ => ⟨_, List.getElem?_eq_getElem hk, hvs⟩⟩, rfl, rfl⟩

theorem raiseNod {h m : Hp} {tb : Nat} {most last ix : Int} {xs : List (Row Nod)} (ht : Tb 7 119 111 RNod m h tb most xs last) (hm : most ≠ 0) : FM Go.Proofs.Tryz.prog 56 [.pointer (some ⟨tb, 0, none⟩), .int .u64 ix] h m (fun v h' m' => v = .tuple ⟨[]⟩ ∧ h' = h ∧ Tb 7 119 111 RNod m' h tb most xs (max last ix)) := by
  obtain ⟨rv, mr, rfl, hd, hr⟩ := ht
  refine FS.enter Go.Proofs.Tryz.func56 rfl rfl fun w0 => ?_
  refine J.open hd ?_
  refine .seq (.text (.mv rfl rfl (?_)))
  refine .callR rfl rfl (noneNod hm) rfl rfl (.not rfl rfl (.done (.thenN ?_)))
  refine .condT rfl ?_
  refine .text (.mv rfl rfl (.mv rfl rfl (.nilOk rfl rfl (.fa rfl rfl (.ld rfl rfl rfl rfl (.mv rfl rfl (.maxI rfl rfl rfl (.nilOk rfl rfl (.fa rfl rfl (.stS rfl rfl rfl rfl (.done ?_)))))))))))
  refine J.endN (J.shut fun hd' => ?_)
  exact J.retTmp (vs := []) rfl (List.Sublist.refl _) ⟨_, rfl, rfl, rfl, _, _, rfl, hd', hr⟩

theorem raiseSvc {h m : Hp} {tb : Nat} {most last ix : Int} {xs : List (Row Svc)} (ht : Tb 10 131 114 RSvc m h tb most xs last) (hm : most ≠ 0) : FM Go.Proofs.Tryz.prog 57 [.pointer (some ⟨tb, 0, none⟩), .int .u64 ix] h m (fun v h' m' => v = .tuple ⟨[]⟩ ∧ h' = h ∧ Tb 10 131 114 RSvc m' h tb most xs (max last ix)) := by
  obtain ⟨rv, mr, rfl, hd, hr⟩ := ht
  refine FS.enter Go.Proofs.Tryz.func57 rfl rfl fun w0 => ?_
  refine J.open hd ?_
  refine .seq (.text (.mv rfl rfl (?_)))
  refine .callR rfl rfl (noneSvc hm) rfl rfl (.not rfl rfl (.done (.thenN ?_)))
  refine .condT rfl ?_
  refine .text (.mv rfl rfl (.mv rfl rfl (.nilOk rfl rfl (.fa rfl rfl (.ld rfl rfl rfl rfl (.mv rfl rfl (.maxI rfl rfl rfl (.nilOk rfl rfl (.fa rfl rfl (.stS rfl rfl rfl rfl (.done ?_)))))))))))
  refine J.endN (J.shut fun hd' => ?_)
  exact J.retTmp (vs := []) rfl (List.Sublist.refl _) ⟨_, rfl, rfl, rfl, _, _, rfl, hd', hr⟩

theorem raiseChk {h m : Hp} {tb : Nat} {most last ix : Int} {xs : List (Row Chk)} (ht : Tb 10 93 117 RChk m h tb most xs last) (hm : most ≠ 0) : FM Go.Proofs.Tryz.prog 58 [.pointer (some ⟨tb, 0, none⟩), .int .u64 ix] h m (fun v h' m' => v = .tuple ⟨[]⟩ ∧ h' = h ∧ Tb 10 93 117 RChk m' h tb most xs (max last ix)) := by
  obtain ⟨rv, mr, rfl, hd, hr⟩ := ht
  refine FS.enter Go.Proofs.Tryz.func58 rfl rfl fun w0 => ?_
  refine J.open hd ?_
  refine .seq (.text (.mv rfl rfl (?_)))
  refine .callR rfl rfl (noneChk hm) rfl rfl (.not rfl rfl (.done (.thenN ?_)))
  refine .condT rfl ?_
  refine .text (.mv rfl rfl (.mv rfl rfl (.nilOk rfl rfl (.fa rfl rfl (.ld rfl rfl rfl rfl (.mv rfl rfl (.maxI rfl rfl rfl (.nilOk rfl rfl (.fa rfl rfl (.stS rfl rfl rfl rfl (.done ?_)))))))))))
  refine J.endN (J.shut fun hd' => ?_)
  exact J.retTmp (vs := []) rfl (List.Sublist.refl _) ⟨_, rfl, rfl, rfl, _, _, rfl, hd', hr⟩

theorem listNod {tb : Nat} {rv : Value} {most last : Int} {h mr : Hp} {F : Hp → List Hp} {L : List Hp} {xs : List (Row Nod)} [At h L tb (.cells ⟨[.int .i64 most, rv, .int .u64 last]⟩ 111 (0, 0))] [hF : HpIn L mr F] (hr : SlT mr h rv 7 119 (RRow RNod) xs) (hm : most ≠ 0) : FG Go.Proofs.Tryz.prog 83 [.pointer (some ⟨tb, 0, none⟩)] h L (fun v h' => SlR h' 7 (RRow RNod) v xs) := by
  refine FS.enter Go.Proofs.Tryz.func83 rfl rfl fun w0 => ?_
  refine .seq (.text (.as_ rfl rfl (.done (.thenN ?_))))
  refine .seq (.seq (.text (.mv rfl rfl (?_))))
  refine .callR rfl rfl (noneNod hm) rfl rfl (.done (.thenN ?_))
  refine .condF rfl ?_
  refine .skip (.thenN ?_)
  refine .seq (.text (.bs [] rfl rfl rfl rfl (by decide) rfl rfl rfl fun b5 => ?_))
  refine .mv rfl rfl (.nilOk rfl rfl (.fa rfl rfl (.ld rfl rfl rfl rfl (.appT (xs := []) rfl ⟨[], SlO.mk rfl (by simp [maxL]), fun i hi => by simp at hi⟩ rfl hr rfl (by simpa using hr.len) rfl rfl fun v m hm' => .as_ rfl rfl (.done (.thenN ?_))))))
  refine .ret ?_
  refine J.frz hm' (RRow.mono RNod.mono) fun h' hl hs => ?_
  exact J.retG rfl (List.Sublist.refl _) hs

theorem listSvc {tb : Nat} {rv : Value} {most last : Int} {h mr : Hp} {F : Hp → List Hp} {L : List Hp} {xs : List (Row Svc)} [At h L tb (.cells ⟨[.int .i64 most, rv, .int .u64 last]⟩ 114 (0, 0))] [hF : HpIn L mr F] (hr : SlT mr h rv 10 131 (RRow RSvc) xs) (hm : most ≠ 0) : FG Go.Proofs.Tryz.prog 84 [.pointer (some ⟨tb, 0, none⟩)] h L (fun v h' => SlR h' 10 (RRow RSvc) v xs) := by
  refine FS.enter Go.Proofs.Tryz.func84 rfl rfl fun w0 => ?_
  refine .seq (.text (.as_ rfl rfl (.done (.thenN ?_))))
  refine .seq (.seq (.text (.mv rfl rfl (?_))))
  refine .callR rfl rfl (noneSvc hm) rfl rfl (.done (.thenN ?_))
  refine .condF rfl ?_
  refine .skip (.thenN ?_)
  refine .seq (.text (.bs [] rfl rfl rfl rfl (by decide) rfl rfl rfl fun b5 => ?_))
  refine .mv rfl rfl (.nilOk rfl rfl (.fa rfl rfl (.ld rfl rfl rfl rfl (.appT (xs := []) rfl ⟨[], SlO.mk rfl (by simp [maxL]), fun i hi => by simp at hi⟩ rfl hr rfl (by simpa using hr.len) rfl rfl fun v m hm' => .as_ rfl rfl (.done (.thenN ?_))))))
  refine .ret ?_
  refine J.frz hm' (RRow.mono RSvc.mono) fun h' hl hs => ?_
  exact J.retG rfl (List.Sublist.refl _) hs

theorem listChk {tb : Nat} {rv : Value} {most last : Int} {h mr : Hp} {F : Hp → List Hp} {L : List Hp} {xs : List (Row Chk)} [At h L tb (.cells ⟨[.int .i64 most, rv, .int .u64 last]⟩ 117 (0, 0))] [hF : HpIn L mr F] (hr : SlT mr h rv 10 93 (RRow RChk) xs) (hm : most ≠ 0) : FG Go.Proofs.Tryz.prog 85 [.pointer (some ⟨tb, 0, none⟩)] h L (fun v h' => SlR h' 10 (RRow RChk) v xs) := by
  refine FS.enter Go.Proofs.Tryz.func85 rfl rfl fun w0 => ?_
  refine .seq (.text (.as_ rfl rfl (.done (.thenN ?_))))
  refine .seq (.seq (.text (.mv rfl rfl (?_))))
  refine .callR rfl rfl (noneChk hm) rfl rfl (.done (.thenN ?_))
  refine .condF rfl ?_
  refine .skip (.thenN ?_)
  refine .seq (.text (.bs [] rfl rfl rfl rfl (by decide) rfl rfl rfl fun b5 => ?_))
  refine .mv rfl rfl (.nilOk rfl rfl (.fa rfl rfl (.ld rfl rfl rfl rfl (.appT (xs := []) rfl ⟨[], SlO.mk rfl (by simp [maxL]), fun i hi => by simp at hi⟩ rfl hr rfl (by simpa using hr.len) rfl rfl fun v m hm' => .as_ rfl rfl (.done (.thenN ?_))))))
  refine .ret ?_
  refine J.frz hm' (RRow.mono RChk.mono) fun h' hl hs => ?_
  exact J.retG rfl (List.Sublist.refl _) hs

theorem newNod {h : Hp} {n : Int} : FS Go.Proofs.Tryz.prog 22 [.int .i64 n] h [] (fun v h' ms' => h' = h ∧ ∃ tb m, v = .pointer (some ⟨tb, 0, none⟩) ∧ ms' = [m] ∧ Tb 7 119 111 RNod m h tb (min (max n 1) 64) [] 0) := by
  refine FS.enter Go.Proofs.Tryz.func22 rfl rfl fun w0 => ?_
  refine .seq (.text (.as_ rfl rfl (.done (.thenN ?_))))
  refine .seq (.text (.mv rfl rfl (.maxI rfl rfl rfl (.minI rfl rfl rfl (.bld [_, _, _] rfl (by rfl) rfl ?_)))))
  refine .box (cs := [_, _, _]) rfl rfl rfl rfl fun b7 => .as_ rfl rfl (.done (.thenN ?_))
  refine .ret ?_
  refine J.addE (J.front 1 rfl (J.shut fun hd => ?_))
  exact J.retTmp rfl (List.Sublist.refl _) ⟨rfl, _, _, rfl, rfl, _, _, rfl, hd, SlT.nil _ _ _ _⟩

theorem newSvc {h : Hp} {n : Int} : FS Go.Proofs.Tryz.prog 23 [.int .i64 n] h [] (fun v h' ms' => h' = h ∧ ∃ tb m, v = .pointer (some ⟨tb, 0, none⟩) ∧ ms' = [m] ∧ Tb 10 131 114 RSvc m h tb (min (max n 1) 64) [] 0) := by
  refine FS.enter Go.Proofs.Tryz.func23 rfl rfl fun w0 => ?_
  refine .seq (.text (.as_ rfl rfl (.done (.thenN ?_))))
  refine .seq (.text (.mv rfl rfl (.maxI rfl rfl rfl (.minI rfl rfl rfl (.bld [_, _, _] rfl (by rfl) rfl ?_)))))
  refine .box (cs := [_, _, _]) rfl rfl rfl rfl fun b7 => .as_ rfl rfl (.done (.thenN ?_))
  refine .ret ?_
  refine J.addE (J.front 1 rfl (J.shut fun hd => ?_))
  exact J.retTmp rfl (List.Sublist.refl _) ⟨rfl, _, _, rfl, rfl, _, _, rfl, hd, SlT.nil _ _ _ _⟩

theorem newChk {h : Hp} {n : Int} : FS Go.Proofs.Tryz.prog 24 [.int .i64 n] h [] (fun v h' ms' => h' = h ∧ ∃ tb m, v = .pointer (some ⟨tb, 0, none⟩) ∧ ms' = [m] ∧ Tb 10 93 117 RChk m h tb (min (max n 1) 64) [] 0) := by
  refine FS.enter Go.Proofs.Tryz.func24 rfl rfl fun w0 => ?_
  refine .seq (.text (.as_ rfl rfl (.done (.thenN ?_))))
  refine .seq (.text (.mv rfl rfl (.maxI rfl rfl rfl (.minI rfl rfl rfl (.bld [_, _, _] rfl (by rfl) rfl ?_)))))
  refine .box (cs := [_, _, _]) rfl rfl rfl rfl fun b7 => .as_ rfl rfl (.done (.thenN ?_))
  refine .ret ?_
  refine J.addE (J.front 1 rfl (J.shut fun hd => ?_))
  exact J.retTmp rfl (List.Sublist.refl _) ⟨rfl, _, _, rfl, rfl, _, _, rfl, hd, SlT.nil _ _ _ _⟩
end Go.Sod
