/-
  What a roster tells, walked. Conditions: none.
-/
import Derived.Test.YtemcklmfpapmpaaGreatR5
namespace Go.Sod
set_option linter.unusedVariables false
set_option linter.unusedSimpArgs false
set_option maxRecDepth 10000
set_option maxHeartbeats 4000000

def toldN (r : Row Nod) : Nod := { r.val with made := r.made, ix := r.ix }
def toldS (r : Row Svc) : Svc := { r.val with made := r.made, ix := r.ix }
def toldC (r : Row Chk) : Chk := { r.val with made := r.made, ix := r.ix }
def nodV (x : Nod) : List Value := [.int .i64 x.node, .string x.addr, .int .u64 x.made, .int .u64 x.ix]
def healthF (svc : ByteArray) (w : Int) (c : Chk) : Int := if (decide (c.service = ⟨#[]⟩) || decide (c.service = svc)) = true then max w c.status else w
def healthB (cs : List Chk) (n : Int) (svc : ByteArray) : Int := (cs.filter fun c => decide (c.node = n)).foldl (healthF svc) 0

theorem nodes1_walk {h : Hp} {n : Nod} {a i : Int} : FV Go.Proofs.Tryz.prog 41 [.agg ⟨nodV n⟩, .int .u64 a, .int .u64 i] h (.agg ⟨nodV { n with made := a, ix := i }⟩) := by
  refine FS.enter Go.Proofs.Tryz.func41 rfl rfl fun w0 => ?_
  refine .seq (.text (.box (cs := [_, _, _, _]) rfl rfl rfl rfl fun b3 => .alloc (cs := [_, _, _, _]) rfl rfl rfl fun b6 => .done (.thenN ?_)))
  refine .seq (.text (.mv rfl rfl (.mv rfl rfl (.fa rfl rfl (.stS rfl rfl rfl rfl (.fa rfl rfl (.stS rfl rfl rfl rfl (.done (.thenN ?_)))))))))
  refine .seq (.text (.ldW rfl rfl rfl rfl (.stW rfl rfl rfl rfl rfl rfl (.done (.thenN ?_)))))
  refine .ret ?_
  exact J.endN (J.retBoxA rfl rfl rfl (List.nil_sublist _) ⟨rfl, rfl, rfl⟩)

theorem checks1_walk {h : Hp} {c : Chk} {a i : Int} : FV Go.Proofs.Tryz.prog 45 [.agg ⟨chkV c⟩, .int .u64 a, .int .u64 i] h (.agg ⟨chkV { c with made := a, ix := i }⟩) := by
  refine FS.enter Go.Proofs.Tryz.func45 rfl rfl fun w0 => ?_
  refine .seq (.text (.box (cs := [_, _, _, _, _, _, _]) rfl rfl rfl rfl fun b3 => .alloc (cs := [_, _, _, _, _, _, _]) rfl rfl rfl fun b6 => .done (.thenN ?_)))
  refine .seq (.text (.mv rfl rfl (.mv rfl rfl (.fa rfl rfl (.stS rfl rfl rfl rfl (.fa rfl rfl (.stS rfl rfl rfl rfl (.done (.thenN ?_)))))))))
  refine .seq (.text (.ldW rfl rfl rfl rfl (.stW rfl rfl rfl rfl rfl rfl (.done (.thenN ?_)))))
  refine .ret ?_
  exact J.endN (J.retBoxA rfl rfl rfl (List.nil_sublist _) ⟨rfl, rfl, rfl⟩)

theorem services1_walk {h : Hp} {s : Svc} {a i : Int} {tv : Value} (ht : SlR h 1 RS tv s.tags) : FH Go.Proofs.Tryz.prog 43 [.agg ⟨svcV s tv⟩, .int .u64 a, .int .u64 i] h (fun v h' => ∃ tv', v = .agg ⟨svcV { s with made := a, ix := i } tv'⟩ ∧ SlR h' 1 RS tv' s.tags) := by
  refine FS.enter Go.Proofs.Tryz.func43 rfl rfl fun w0 => ?_
  obtain ⟨tA, tc, rfl⟩ := ht.form
  refine .seq (.text (.box (cs := [_, _, _, _, _, _, _]) rfl rfl rfl rfl fun b3 => .alloc (cs := [_, _, _, _, _, _, _]) rfl rfl rfl fun b6 => .done (.thenN ?_)))
  refine .seq (.text (.mv rfl rfl (.mv rfl rfl (.fa rfl rfl (.stS rfl rfl rfl rfl (.fa rfl rfl (.stS rfl rfl rfl rfl (.done (.thenN ?_)))))))))
  refine .seq (.text (.bs [] rfl rfl rfl rfl (by decide) rfl rfl rfl fun b11 => ?_))
  refine .fa rfl rfl (.ld rfl rfl rfl rfl (.appL (xs := []) rfl ⟨[], SlO.mk rfl (by simp [maxL]), fun i hi => by simp at hi⟩ rfl ht rfl (by simpa using ht.len) rfl rfl fun v14 m14 hm14 => ?_))
  refine J.frz hm14 RS.mono fun h1 hl1 hs1 => ?_
  obtain ⟨A14, c14, rfl⟩ := hs1.form
  refine .fa rfl rfl (.stS rfl rfl rfl rfl (.done (.thenN ?_)))
  refine .seq (.text (.ldW rfl rfl rfl rfl (.stW rfl rfl rfl rfl rfl rfl (.done (.thenN ?_)))))
  refine .ret ?_
  exact J.endN (J.retBoxA rfl rfl rfl (List.nil_sublist _) ⟨⟨_, rfl, hs1⟩, rfl⟩)

theorem allNod_walk {tb : Nat} {rv : Value} {most last : Int} {h mr : Hp} {F : Hp → List Hp} {L : List Hp} {xs : List (Row Nod)} [At h L tb (.cells ⟨[.int .i64 most, rv, .int .u64 last]⟩ 111 (0, 0))] [hF : HpIn L mr F] (hr : SlT mr h rv 7 119 (RRow RNod) xs) (hm : most ≠ 0) : FG Go.Proofs.Tryz.prog 40 [.pointer (some ⟨tb, 0, none⟩), .agg ⟨[.func (.func 41) ⟨[]⟩ ⟨[]⟩]⟩] h L (fun v h' => SlR h' 4 RNod v (xs.map toldN)) := by
  refine FS.enter Go.Proofs.Tryz.func40 rfl rfl fun w0 => ?_
  refine .seq (.text (.box (cs := [_]) rfl rfl rfl rfl fun b3 => .as_ rfl rfl (.done (.thenN ?_))))
  refine .seq (.text (.as_ rfl rfl (.done (.thenN ?_))))
  refine .seq (.seq (.text (.mv rfl rfl (?_))))
  refine .callG rfl rfl (listNod hr hm) rfl rfl fun u9 h9 hl9 hu9 => .len hu9 rfl rfl rfl (.mv rfl rfl (.done (.thenN ?_)))
  refine .block (?_)
  refine J.addE ?_
  refine J.loop (ι := Nat × Value × Hp × Hp) (fun i => i.1 ≤ xs.length ∧ h9.le i.2.2.2 ∧ SlT i.2.2.1 i.2.2.2 i.2.1 4 49 RNod ((xs.take i.1).map toldN)) (fun i => [(3, .pointer (some ⟨b3, 0, none⟩)), (5, i.2.1), (9, u9), (10, .int .i64 (xs.length : Int)), (11, .int .i64 (i.1 : Int))]) (fun i => i.2.2.2) (fun i => i.2.2.1 :: one b3 (.cells ⟨[.func (.func 41) ⟨[]⟩ ⟨[]⟩]⟩ 82 (0, 0)) :: L) (fun i => xs.length - i.1) (0, .slice none 0 0, Hp.emp, h9) ⟨by simp, Hp.le_refl _, SlT.nil _ _ _ _⟩ (.cons rfl (.cons rfl (.cons rfl (.cons rfl (.cons rfl (.nil _)))))) rfl rfl ?_
  rintro ⟨k, lv, ml, h1⟩ ⟨hk0, hle, hl⟩
  dsimp only at hk0 hle hl ⊢
  have hx := hu9.mono (RRow.mono RNod.mono) hle
  refine .seq (.text (.cmp rfl rfl rfl rfl (.done (.thenN ?_))))
  refine .seq (.cond rfl (fun hb3 => ?_) (fun hb3 => ?_))
  ·
    have hk : k < xs.length := by simp [cmpI] at hb3; omega
    refine .skip (.thenN ?_)
    refine .seq (.block (.seq (.text (.ix (i := k) hx rfl rfl rfl hk rfl (.ldE hx hk rfl rfl rfl fun vs hvs => ?_)))))
    obtain ⟨ws, rfl, rfl⟩ := hvs
    refine .alloc (cs := [_, _, _, _, _, _, _]) rfl rfl rfl fun b7 => .stW rfl rfl rfl rfl rfl rfl (.done (.thenN ?_))
    refine .text (.mv rfl rfl (.fa rfl rfl (.ld (v := .func (.func 41) ⟨[]⟩ ⟨[]⟩) rfl rfl rfl rfl (.fa rfl rfl (.ldA [_, _, _, _] rfl rfl rfl rfl rfl (.fa rfl rfl (.ld rfl rfl rfl rfl (.fa rfl rfl (.ld rfl rfl rfl rfl (?_))))))))))
    refine .callV rfl rfl (nodes1_walk (n := xs[k].val)) rfl rfl (.bs [_, _, _, _] rfl rfl rfl rfl (by decide) rfl rfl rfl fun b25 => ?_)
    refine .app1 (z := toldN xs[k]) rfl hl rfl rfl rfl rfl rfl (by have := hx.len; simp; omega) rfl rfl fun v26 m26 hm26 => .as_ rfl rfl (.done (.blkN (.thenN ?_)))
    refine .text (.inc rfl rfl (by have := hx.len; unfold maxL at this; omega) rfl (.mv rfl rfl (.done (.thenN ?_))))
    refine J.dropF 2 (J.again (k + 1, v26, m26, h1) (by simp; omega) ⟨hk, hle, ?_⟩ (.cons rfl (.cons rfl (.cons rfl (.cons rfl (.cons rfl (.nil _)))))) rfl rfl)
    dsimp only; rw [map_take_succ hk]; exact hm26
  ·
    have hk : k = xs.length := by simp [cmpI] at hb3; omega
    refine .exit (.thenE (.thenE (.blkHit (.thenN ?_))))
    refine .seq (.text (.mv rfl rfl (.as_ rfl rfl (.done (.thenN ?_)))))
    refine .ret ?_
    subst hk
    rw [List.take_length] at hl
    refine J.frz hl RNod.mono fun h' hl' hs => ?_
    exact J.retG rfl (.cons _ (List.Sublist.refl _)) hs

theorem nodes_walk {rp t0 t1 t2 : Nat} {rv : Value} {most last : Int} {h mr : Hp} {F : Hp → List Hp} {L : List Hp} {xs : List (Row Nod)} [At h L t0 (.cells ⟨[.int .i64 most, rv, .int .u64 last]⟩ 111 (0, 0))] [At h L rp (.cells ⟨[.pointer (some ⟨t0, 0, none⟩), .pointer (some ⟨t1, 0, none⟩), .pointer (some ⟨t2, 0, none⟩)]⟩ 66 (0, 0))] [hF : HpIn L mr F] (hr : SlT mr h rv 7 119 (RRow RNod) xs) (hm : most ≠ 0) : FG Go.Proofs.Tryz.prog 14 [.pointer (some ⟨rp, 0, none⟩)] h L (fun v h' => SlR h' 4 RNod v (xs.map toldN)) := by
  refine FS.enter Go.Proofs.Tryz.func14 rfl rfl fun w0 => ?_
  refine .seq (.text (.as_ rfl rfl (.done (.thenN ?_))))
  refine .seq (.seq (.text (.mv rfl rfl (?_))))
  refine .callR rfl rfl rnone_walk rfl rfl (.done (.thenN ?_))
  refine .condF rfl ?_
  refine .skip (.thenN ?_)
  refine .seq (.text (.mv rfl rfl (.nilOk rfl rfl (.fa rfl rfl (.ld rfl rfl rfl rfl (.bld [_] rfl (by rfl) rfl ?_))))))
  refine ?_
  refine .callG rfl rfl (allNod_walk hr hm) rfl rfl fun u10 h10 hl10 hu10 => .as_ rfl rfl (.done (.thenN ?_))
  refine .ret ?_
  exact J.retG rfl (List.Sublist.refl _) hu10

theorem allSvc_walk {tb : Nat} {rv : Value} {most last : Int} {h mr : Hp} {F : Hp → List Hp} {L : List Hp} {xs : List (Row Svc)} [At h L tb (.cells ⟨[.int .i64 most, rv, .int .u64 last]⟩ 114 (0, 0))] [hF : HpIn L mr F] (hr : SlT mr h rv 10 131 (RRow RSvc) xs) (hm : most ≠ 0) : FG Go.Proofs.Tryz.prog 42 [.pointer (some ⟨tb, 0, none⟩), .agg ⟨[.func (.func 43) ⟨[]⟩ ⟨[]⟩]⟩] h L (fun v h' => SlR h' 7 RSvc v (xs.map toldS)) := by
  refine FS.enter Go.Proofs.Tryz.func42 rfl rfl fun w0 => ?_
  refine .seq (.text (.box (cs := [_]) rfl rfl rfl rfl fun b3 => .as_ rfl rfl (.done (.thenN ?_))))
  refine .seq (.text (.as_ rfl rfl (.done (.thenN ?_))))
  refine .seq (.seq (.text (.mv rfl rfl (?_))))
  refine .callG rfl rfl (listSvc hr hm) rfl rfl fun u9 h9 hl9 hu9 => .len hu9 rfl rfl rfl (.mv rfl rfl (.done (.thenN ?_)))
  refine .block (?_)
  refine J.addE ?_
  refine J.loop (ι := Nat × Value × Hp × Hp) (fun i => i.1 ≤ xs.length ∧ h9.le i.2.2.2 ∧ SlT i.2.2.1 i.2.2.2 i.2.1 7 31 RSvc ((xs.take i.1).map toldS)) (fun i => [(3, .pointer (some ⟨b3, 0, none⟩)), (5, i.2.1), (9, u9), (10, .int .i64 (xs.length : Int)), (11, .int .i64 (i.1 : Int))]) (fun i => i.2.2.2) (fun i => i.2.2.1 :: one b3 (.cells ⟨[.func (.func 43) ⟨[]⟩ ⟨[]⟩]⟩ 86 (0, 0)) :: L) (fun i => xs.length - i.1) (0, .slice none 0 0, Hp.emp, h9) ⟨by simp, Hp.le_refl _, SlT.nil _ _ _ _⟩ (.cons rfl (.cons rfl (.cons rfl (.cons rfl (.cons rfl (.nil _)))))) rfl rfl ?_
  rintro ⟨k, lv, ml, h1⟩ ⟨hk0, hle, hl⟩
  dsimp only at hk0 hle hl ⊢
  have hx := hu9.mono (RRow.mono RSvc.mono) hle
  refine .seq (.text (.cmp rfl rfl rfl rfl (.done (.thenN ?_))))
  refine .seq (.cond rfl (fun hb3 => ?_) (fun hb3 => ?_))
  ·
    have hk : k < xs.length := by simp [cmpI] at hb3; omega
    refine .skip (.thenN ?_)
    refine .seq (.block (.seq (.text (.ix (i := k) hx rfl rfl rfl hk rfl (.ldE hx hk rfl rfl rfl fun vs hvs => ?_)))))
    obtain ⟨ws, rfl, tv, rfl, htv⟩ := hvs
    obtain ⟨tA, tc, rfl⟩ := htv.form
    refine .alloc (cs := [_, _, _, _, _, _, _, _, _, _]) rfl rfl rfl fun b7 => .stW rfl rfl rfl rfl rfl rfl (.done (.thenN ?_))
    refine .text (.mv rfl rfl (.fa rfl rfl (.ld (v := .func (.func 43) ⟨[]⟩ ⟨[]⟩) rfl rfl rfl rfl (.fa rfl rfl (.ldA [_, _, _, _, _, _, _] rfl rfl rfl rfl rfl (.fa rfl rfl (.ld rfl rfl rfl rfl (.fa rfl rfl (.ld rfl rfl rfl rfl (?_))))))))))
    refine .callH rfl rfl (services1_walk (s := xs[k].val) htv) rfl rfl fun u24 h24 hl24 hu24 => ?_
    obtain ⟨tv', rfl, hc⟩ := hu24
    obtain ⟨tA', tc', rfl⟩ := hc.form
    have hl := hl.mono RSvc.mono hl24
    refine .bs [_, _, _, _, _, _, _] rfl rfl rfl rfl (by decide) rfl rfl rfl fun b25 => ?_
    refine .app1 (z := toldS xs[k]) rfl hl rfl rfl rfl rfl ⟨_, rfl, hc⟩ (by have := hx.len; simp; omega) rfl rfl fun v26 m26 hm26 => .as_ rfl rfl (.done (.blkN (.thenN ?_)))
    refine .text (.inc rfl rfl (by have := hx.len; unfold maxL at this; omega) rfl (.mv rfl rfl (.done (.thenN ?_))))
    refine J.dropF 2 (J.again (k + 1, v26, m26, h24) (by simp; omega) ⟨hk, Hp.le_trans hle hl24, ?_⟩ (.cons rfl (.cons rfl (.cons rfl (.cons rfl (.cons rfl (.nil _)))))) rfl rfl)
    dsimp only; rw [map_take_succ hk]; exact hm26
  ·
    have hk : k = xs.length := by simp [cmpI] at hb3; omega
    refine .exit (.thenE (.thenE (.blkHit (.thenN ?_))))
    refine .seq (.text (.mv rfl rfl (.as_ rfl rfl (.done (.thenN ?_)))))
    refine .ret ?_
    subst hk
    rw [List.take_length] at hl
    refine J.frz hl RSvc.mono fun h' hl' hs => ?_
    exact J.retG rfl (.cons _ (List.Sublist.refl _)) hs

theorem services_walk {rp t0 t1 t2 : Nat} {rv : Value} {most last : Int} {h mr : Hp} {F : Hp → List Hp} {L : List Hp} {xs : List (Row Svc)} [At h L t1 (.cells ⟨[.int .i64 most, rv, .int .u64 last]⟩ 114 (0, 0))] [At h L rp (.cells ⟨[.pointer (some ⟨t0, 0, none⟩), .pointer (some ⟨t1, 0, none⟩), .pointer (some ⟨t2, 0, none⟩)]⟩ 66 (0, 0))] [hF : HpIn L mr F] (hr : SlT mr h rv 10 131 (RRow RSvc) xs) (hm : most ≠ 0) : FG Go.Proofs.Tryz.prog 15 [.pointer (some ⟨rp, 0, none⟩)] h L (fun v h' => SlR h' 7 RSvc v (xs.map toldS)) := by
  refine FS.enter Go.Proofs.Tryz.func15 rfl rfl fun w0 => ?_
  refine .seq (.text (.as_ rfl rfl (.done (.thenN ?_))))
  refine .seq (.seq (.text (.mv rfl rfl (?_))))
  refine .callR rfl rfl rnone_walk rfl rfl (.done (.thenN ?_))
  refine .condF rfl ?_
  refine .skip (.thenN ?_)
  refine .seq (.text (.mv rfl rfl (.nilOk rfl rfl (.fa rfl rfl (.ld rfl rfl rfl rfl (.bld [_] rfl (by rfl) rfl ?_))))))
  refine ?_
  refine .callG rfl rfl (allSvc_walk hr hm) rfl rfl fun u10 h10 hl10 hu10 => .as_ rfl rfl (.done (.thenN ?_))
  refine .ret ?_
  exact J.retG rfl (List.Sublist.refl _) hu10

theorem allChk_walk {tb : Nat} {rv : Value} {most last : Int} {h mr : Hp} {F : Hp → List Hp} {L : List Hp} {xs : List (Row Chk)} [At h L tb (.cells ⟨[.int .i64 most, rv, .int .u64 last]⟩ 117 (0, 0))] [hF : HpIn L mr F] (hr : SlT mr h rv 10 93 (RRow RChk) xs) (hm : most ≠ 0) : FG Go.Proofs.Tryz.prog 44 [.pointer (some ⟨tb, 0, none⟩), .agg ⟨[.func (.func 45) ⟨[]⟩ ⟨[]⟩]⟩] h L (fun v h' => SlR h' 7 RChk v (xs.map toldC)) := by
  refine FS.enter Go.Proofs.Tryz.func44 rfl rfl fun w0 => ?_
  refine .seq (.text (.box (cs := [_]) rfl rfl rfl rfl fun b3 => .as_ rfl rfl (.done (.thenN ?_))))
  refine .seq (.text (.as_ rfl rfl (.done (.thenN ?_))))
  refine .seq (.seq (.text (.mv rfl rfl (?_))))
  refine .callG rfl rfl (listChk hr hm) rfl rfl fun u9 h9 hl9 hu9 => .len hu9 rfl rfl rfl (.mv rfl rfl (.done (.thenN ?_)))
  refine .block (?_)
  refine J.addE ?_
  refine J.loop (ι := Nat × Value × Hp × Hp) (fun i => i.1 ≤ xs.length ∧ h9.le i.2.2.2 ∧ SlT i.2.2.1 i.2.2.2 i.2.1 7 33 RChk ((xs.take i.1).map toldC)) (fun i => [(3, .pointer (some ⟨b3, 0, none⟩)), (5, i.2.1), (9, u9), (10, .int .i64 (xs.length : Int)), (11, .int .i64 (i.1 : Int))]) (fun i => i.2.2.2) (fun i => i.2.2.1 :: one b3 (.cells ⟨[.func (.func 45) ⟨[]⟩ ⟨[]⟩]⟩ 90 (0, 0)) :: L) (fun i => xs.length - i.1) (0, .slice none 0 0, Hp.emp, h9) ⟨by simp, Hp.le_refl _, SlT.nil _ _ _ _⟩ (.cons rfl (.cons rfl (.cons rfl (.cons rfl (.cons rfl (.nil _)))))) rfl rfl ?_
  rintro ⟨k, lv, ml, h1⟩ ⟨hk0, hle, hl⟩
  dsimp only at hk0 hle hl ⊢
  have hx := hu9.mono (RRow.mono RChk.mono) hle
  refine .seq (.text (.cmp rfl rfl rfl rfl (.done (.thenN ?_))))
  refine .seq (.cond rfl (fun hb3 => ?_) (fun hb3 => ?_))
  ·
    have hk : k < xs.length := by simp [cmpI] at hb3; omega
    refine .skip (.thenN ?_)
    refine .seq (.block (.seq (.text (.ix (i := k) hx rfl rfl rfl hk rfl (.ldE hx hk rfl rfl rfl fun vs hvs => ?_)))))
    obtain ⟨ws, rfl, rfl⟩ := hvs
    refine .alloc (cs := [_, _, _, _, _, _, _, _, _, _]) rfl rfl rfl fun b7 => .stW rfl rfl rfl rfl rfl rfl (.done (.thenN ?_))
    refine .text (.mv rfl rfl (.fa rfl rfl (.ld (v := .func (.func 45) ⟨[]⟩ ⟨[]⟩) rfl rfl rfl rfl (.fa rfl rfl (.ldA [_, _, _, _, _, _, _] rfl rfl rfl rfl rfl (.fa rfl rfl (.ld rfl rfl rfl rfl (.fa rfl rfl (.ld rfl rfl rfl rfl (?_))))))))))
    refine .callV rfl rfl (checks1_walk (c := xs[k].val)) rfl rfl (.bs [_, _, _, _, _, _, _] rfl rfl rfl rfl (by decide) rfl rfl rfl fun b25 => ?_)
    refine .app1 (z := toldC xs[k]) rfl hl rfl rfl rfl rfl rfl (by have := hx.len; simp; omega) rfl rfl fun v26 m26 hm26 => .as_ rfl rfl (.done (.blkN (.thenN ?_)))
    refine .text (.inc rfl rfl (by have := hx.len; unfold maxL at this; omega) rfl (.mv rfl rfl (.done (.thenN ?_))))
    refine J.dropF 2 (J.again (k + 1, v26, m26, h1) (by simp; omega) ⟨hk, hle, ?_⟩ (.cons rfl (.cons rfl (.cons rfl (.cons rfl (.cons rfl (.nil _)))))) rfl rfl)
    dsimp only; rw [map_take_succ hk]; exact hm26
  ·
    have hk : k = xs.length := by simp [cmpI] at hb3; omega
    refine .exit (.thenE (.thenE (.blkHit (.thenN ?_))))
    refine .seq (.text (.mv rfl rfl (.as_ rfl rfl (.done (.thenN ?_)))))
    refine .ret ?_
    subst hk
    rw [List.take_length] at hl
    refine J.frz hl RChk.mono fun h' hl' hs => ?_
    exact J.retG rfl (.cons _ (List.Sublist.refl _)) hs

theorem checks_walk {rp t0 t1 t2 : Nat} {rv : Value} {most last : Int} {h mr : Hp} {F : Hp → List Hp} {L : List Hp} {xs : List (Row Chk)} [At h L t2 (.cells ⟨[.int .i64 most, rv, .int .u64 last]⟩ 117 (0, 0))] [At h L rp (.cells ⟨[.pointer (some ⟨t0, 0, none⟩), .pointer (some ⟨t1, 0, none⟩), .pointer (some ⟨t2, 0, none⟩)]⟩ 66 (0, 0))] [hF : HpIn L mr F] (hr : SlT mr h rv 10 93 (RRow RChk) xs) (hm : most ≠ 0) : FG Go.Proofs.Tryz.prog 16 [.pointer (some ⟨rp, 0, none⟩)] h L (fun v h' => SlR h' 7 RChk v (xs.map toldC)) := by
  refine FS.enter Go.Proofs.Tryz.func16 rfl rfl fun w0 => ?_
  refine .seq (.text (.as_ rfl rfl (.done (.thenN ?_))))
  refine .seq (.seq (.text (.mv rfl rfl (?_))))
  refine .callR rfl rfl rnone_walk rfl rfl (.done (.thenN ?_))
  refine .condF rfl ?_
  refine .skip (.thenN ?_)
  refine .seq (.text (.mv rfl rfl (.nilOk rfl rfl (.fa rfl rfl (.ld rfl rfl rfl rfl (.bld [_] rfl (by rfl) rfl ?_))))))
  refine ?_
  refine .callG rfl rfl (allChk_walk hr hm) rfl rfl fun u10 h10 hl10 hu10 => .as_ rfl rfl (.done (.thenN ?_))
  refine .ret ?_
  exact J.retG rfl (List.Sublist.refl _) hu10

theorem of_walk {rp t0 t1 t2 : Nat} {rv rv' : Value} {most last most' last' : Int} {h mr mr' : Hp} {F F' : Hp → List Hp} {L : List Hp} {xs : List (Row Svc)} {ys : List (Row Chk)} [ir : At h L rp (.cells ⟨[.pointer (some ⟨t0, 0, none⟩), .pointer (some ⟨t1, 0, none⟩), .pointer (some ⟨t2, 0, none⟩)]⟩ 66 (0, 0))] [i1 : At h L t1 (.cells ⟨[.int .i64 most, rv, .int .u64 last]⟩ 114 (0, 0))] [i2 : At h L t2 (.cells ⟨[.int .i64 most', rv', .int .u64 last']⟩ 117 (0, 0))] [hF : HpIn L mr F] [hF' : HpIn L mr' F'] (hr : SlT mr h rv 10 131 (RRow RSvc) xs) (hm : most ≠ 0) (hr' : SlT mr' h rv' 10 93 (RRow RChk) ys) (hm' : most' ≠ 0) {n : Int} : FG Go.Proofs.Tryz.prog 17 [.pointer (some ⟨rp, 0, none⟩), .int .i64 n] h L (fun v h' => ∃ sv cv, v = .tuple ⟨[sv, cv]⟩ ∧ SlR h' 7 RSvc sv ((xs.map toldS).filter fun s => decide (s.node = n)) ∧ SlR h' 7 RChk cv ((ys.map toldC).filter fun c => decide (c.node = n))) := by
  refine FS.enter Go.Proofs.Tryz.func17 rfl rfl fun w0 => ?_
  refine .seq (.text (.as_ rfl rfl (.as_ rfl rfl (.done (.thenN ?_)))))
  refine .seq (.text (.as_ rfl rfl (.done (.thenN ?_))))
  refine .seq (.seq (.text (.mv rfl rfl (?_))))
  refine .callG rfl rfl (services_walk hr hm) rfl rfl fun u13 h13 hl13 hu13 => ?_
  have hlx : (xs.map toldS).length = xs.length := List.length_map ..
  refine .len hu13 rfl rfl rfl (.mv rfl rfl (.done (.thenN ?_)))
  refine .block (?_)
  refine J.addE ?_
  refine J.loop (ι := Nat × Value × Hp) (fun i => i.1 ≤ (xs.map toldS).length ∧ SlT i.2.2 h13 i.2.1 7 31 RSvc (((xs.map toldS).take i.1).filter fun s => decide (s.node = n))) (fun i => [(0, .pointer (some ⟨rp, 0, none⟩)), (1, .int .i64 n), (6, i.2.1), (13, u13), (14, .int .i64 ((xs.map toldS).length : Int)), (15, .int .i64 (i.1 : Int))]) (fun i => h13) (fun i => i.2.2 :: L) (fun i => (xs.map toldS).length - i.1) (0, .slice none 0 0, Hp.emp) ⟨by simp, SlT.nil _ _ _ _⟩ (.cons rfl (.cons rfl (.cons rfl (.cons rfl (.cons rfl (.cons rfl (.nil _))))))) rfl rfl ?_
  rintro ⟨k, lv, ml⟩ ⟨hk0, hl⟩
  dsimp only at hk0 hl ⊢
  refine .seq (.text (.cmp rfl rfl rfl rfl (.done (.thenN ?_))))
  refine .seq (.cond rfl (fun hb3 => ?_) (fun hb3 => ?_))
  ·
    have hk : k < (xs.map toldS).length := by simp [cmpI] at hb3; simp; omega
    refine .skip (.thenN ?_)
    refine .seq (.block (.seq (.text (.ix (i := k) hu13 rfl rfl rfl hk rfl (.ldE hu13 hk rfl rfl rfl fun vs hvs => ?_)))))
    have hvs0 := hvs
    obtain ⟨tv, rfl, htv⟩ := hvs
    obtain ⟨tA, tc, rfl⟩ := htv.form
    refine .alloc (cs := [_, _, _, _, _, _, _]) rfl rfl rfl fun b8 => .stW rfl rfl rfl rfl rfl rfl (.done (.thenN ?_))
    refine .seq (.text (.fa rfl rfl (.ld rfl rfl rfl rfl (.mv rfl rfl (.cmp rfl rfl rfl rfl (.done (.thenN ?_)))))))
    refine .cond rfl (fun hb5 => ?_) (fun hb5 => ?_)
    ·
      refine .text (.mv rfl rfl (.ldW rfl rfl rfl rfl (.bs [_, _, _, _, _, _, _] rfl rfl rfl rfl (by decide) rfl rfl rfl fun b25 => ?_)))
      refine .app1 (z := (xs.map toldS)[k]) rfl hl rfl rfl rfl rfl ⟨_, rfl, htv⟩ (by have h1 := hu13.len; have h2 : (((xs.map toldS).take k).filter fun s => decide (s.node = n)).length ≤ k := Nat.le_trans (List.length_filter_le ..) (by rw [List.length_take]; omega); omega) rfl rfl fun v26 m26 hm26 => .as_ rfl rfl (.done (.blkN (.thenN ?_)))
      refine .text (.inc rfl rfl (by have := hu13.len; unfold maxL at this; omega) rfl (.mv rfl rfl (.done (.thenN ?_))))
      refine J.dropF 2 (J.again (k + 1, v26, m26) (by dsimp only; omega) ⟨hk, ?_⟩ (.cons rfl (.cons rfl (.cons rfl (.cons rfl (.cons rfl (.cons rfl (.nil _))))))) rfl rfl)
      dsimp only; rw [filter_take_succ hk, if_pos (by simpa using hb5)]; exact hm26
    ·
      refine .skip (.blkN (.thenN ?_))
      refine .text (.inc rfl rfl (by have := hu13.len; unfold maxL at this; omega) rfl (.mv rfl rfl (.done (.thenN ?_))))
      refine J.dropF 1 (J.again (k + 1, lv, ml) (by dsimp only; omega) ⟨hk, ?_⟩ (.cons rfl (.cons rfl (.cons rfl (.cons rfl (.cons rfl (.cons rfl (.nil _))))))) rfl rfl)
      dsimp only; rw [filter_take_succ hk, if_neg (by simpa using hb5), List.append_nil]; exact hl
  ·
    have hk : k = (xs.map toldS).length := by simp only [cmpI, decide_eq_false_iff_not] at hb3; omega
    refine .exit (.thenE (.thenE (.blkHit (.thenN ?_))))
    refine .seq (?_)
    subst hk
    rw [List.take_length] at hl
    refine J.frz hl RSvc.mono fun h1 hl1 hs1 => ?_
    have hle := Hp.le_trans hl13 hl1
    haveI := ir.up hle
    haveI := i1.up hle
    haveI := i2.up hle
    have hr' := hr'.mono (RRow.mono RChk.mono) hle
    refine .text (.as_ rfl rfl (.done (.thenN ?_)))
    refine .seq (.seq (.text (.mv rfl rfl (?_))))
    refine .callG rfl rfl (checks_walk hr' hm') rfl rfl fun u29 h29 hl29 hu29 => .len hu29 rfl rfl rfl (.mv rfl rfl (.done (.thenN ?_)))
    refine .block (?_)
    refine J.addE ?_
    refine J.loop (ι := Nat × Value × Hp) (fun i => i.1 ≤ (ys.map toldC).length ∧ SlT i.2.2 h29 i.2.1 7 33 RChk (((ys.map toldC).take i.1).filter fun s => decide (s.node = n))) (fun i => [(1, .int .i64 n), (6, lv), (9, i.2.1), (29, u29), (30, .int .i64 ((ys.map toldC).length : Int)), (31, .int .i64 (i.1 : Int))]) (fun i => h29) (fun i => i.2.2 :: L) (fun i => (ys.map toldC).length - i.1) (0, .slice none 0 0, Hp.emp) ⟨by simp, SlT.nil _ _ _ _⟩ (.cons rfl (.cons rfl (.cons rfl (.cons rfl (.cons rfl (.cons rfl (.nil _))))))) rfl rfl ?_
    rintro ⟨k, lv2, ml⟩ ⟨hk0, hl2⟩
    dsimp only at hk0 hl2 ⊢
    refine .seq (.text (.cmp rfl rfl rfl rfl (.done (.thenN ?_))))
    refine .seq (.cond rfl (fun hb10 => ?_) (fun hb10 => ?_))
    ·
      have hk : k < (ys.map toldC).length := by simp [cmpI] at hb10; simp; omega
      refine .skip (.thenN ?_)
      refine .seq (.block (.seq (.text (.ix (i := k) hu29 rfl rfl rfl hk rfl (.ldE hu29 hk rfl rfl rfl fun vs hvs => ?_)))))
      obtain rfl := hvs
      refine .alloc (cs := [_, _, _, _, _, _, _]) rfl rfl rfl fun b11 => .stW rfl rfl rfl rfl rfl rfl (.done (.thenN ?_))
      refine .seq (.text (.fa rfl rfl (.ld rfl rfl rfl rfl (.mv rfl rfl (.cmp rfl rfl rfl rfl (.done (.thenN ?_)))))))
      refine .cond rfl (fun hb12 => ?_) (fun hb12 => ?_)
      ·
        refine .text (.mv rfl rfl (.ldW rfl rfl rfl rfl (.bs [_, _, _, _, _, _, _] rfl rfl rfl rfl (by decide) rfl rfl rfl fun b41 => ?_)))
        refine .app1 (z := (ys.map toldC)[k]) rfl hl2 rfl rfl rfl rfl rfl (by have h1 := hu29.len; have h2 : (((ys.map toldC).take k).filter fun s => decide (s.node = n)).length ≤ k := Nat.le_trans (List.length_filter_le ..) (by rw [List.length_take]; omega); omega) rfl rfl fun v42 m42 hm42 => .as_ rfl rfl (.done (.blkN (.thenN ?_)))
        refine .text (.inc rfl rfl (by have := hu29.len; unfold maxL at this; omega) rfl (.mv rfl rfl (.done (.thenN ?_))))
        refine J.dropF 2 (J.again (k + 1, v42, m42) (by dsimp only; omega) ⟨hk, ?_⟩ (.cons rfl (.cons rfl (.cons rfl (.cons rfl (.cons rfl (.cons rfl (.nil _))))))) rfl rfl)
        dsimp only; rw [filter_take_succ hk, if_pos (by simpa using hb12)]; exact hm42
      ·
        refine .skip (.blkN (.thenN ?_))
        refine .text (.inc rfl rfl (by have := hu29.len; unfold maxL at this; omega) rfl (.mv rfl rfl (.done (.thenN ?_))))
        refine J.dropF 1 (J.again (k + 1, lv2, ml) (by dsimp only; omega) ⟨hk, ?_⟩ (.cons rfl (.cons rfl (.cons rfl (.cons rfl (.cons rfl (.cons rfl (.nil _))))))) rfl rfl)
        dsimp only; rw [filter_take_succ hk, if_neg (by simpa using hb12), List.append_nil]; exact hl2
    ·
      have hk : k = (ys.map toldC).length := by simp only [cmpI, decide_eq_false_iff_not] at hb10; omega
      refine .exit (.thenE (.thenE (.blkHit (.thenN ?_))))
      refine .seq (.text (.mv rfl rfl (.mv rfl rfl (.as_ rfl rfl (.as_ rfl rfl (.done (.thenN ?_)))))))
      refine .ret ?_
      subst hk
      rw [List.take_length] at hl2
      refine J.frz hl2 RChk.mono fun h2 hl2' hs2 => ?_
      exact J.retG rfl (List.Sublist.refl _) ⟨_, _, rfl, hs1.mono RSvc.mono (Hp.le_trans hl29 hl2'), hs2⟩

theorem health_walk {rp t0 t1 t2 : Nat} {rv rv' : Value} {most last most' last' : Int} {h mr mr' : Hp} {F F' : Hp → List Hp} {L : List Hp} {xs : List (Row Svc)} {ys : List (Row Chk)} [ir : At h L rp (.cells ⟨[.pointer (some ⟨t0, 0, none⟩), .pointer (some ⟨t1, 0, none⟩), .pointer (some ⟨t2, 0, none⟩)]⟩ 66 (0, 0))] [i1 : At h L t1 (.cells ⟨[.int .i64 most, rv, .int .u64 last]⟩ 114 (0, 0))] [i2 : At h L t2 (.cells ⟨[.int .i64 most', rv', .int .u64 last']⟩ 117 (0, 0))] [hF : HpIn L mr F] [hF' : HpIn L mr' F'] (hr : SlT mr h rv 10 131 (RRow RSvc) xs) (hm : most ≠ 0) (hr' : SlT mr' h rv' 10 93 (RRow RChk) ys) (hm' : most' ≠ 0) {n : Int} {svc : ByteArray} : FR Go.Proofs.Tryz.prog 11 [.pointer (some ⟨rp, 0, none⟩), .int .i64 n, .string svc] h L (.int .i64 (healthB (ys.map toldC) n svc)) := by
  refine FS.enter Go.Proofs.Tryz.func11 rfl rfl fun w0 => ?_
  refine .seq (.text (.as_ rfl rfl (.done (.thenN ?_))))
  refine .seq (.text (.as_ rfl rfl (.done (.thenN ?_))))
  refine .seq (.text (.mv rfl rfl (.mv rfl rfl (?_))))
  refine .callG rfl rfl (of_walk hr hm hr' hm') rfl rfl fun u15 h15 hl15 hu15 => ?_
  obtain ⟨sv, cv, rfl, hsv, hcv⟩ := hu15
  generalize hz : ((ys.map toldC).filter fun c => decide (c.node = n)) = zs at hcv
  refine .mv rfl rfl (.ext rfl rfl rfl (.ext rfl rfl rfl (.as_ rfl rfl (.as_ rfl rfl (.done (.thenN ?_))))))
  refine .seq (.seq (.text (.mv rfl rfl (.len hcv rfl rfl rfl (.mv rfl rfl (.done (.thenN ?_)))))))
  refine .block (?_)
  refine J.loop (ι := Nat × Int) (fun i => i.1 ≤ zs.length ∧ i.2 = (zs.take i.1).foldl (healthF svc) 0) (fun i => [(2, .string svc), (7, .int .i64 i.2), (18, cv), (19, .int .i64 (zs.length : Int)), (20, .int .i64 (i.1 : Int))]) (fun _ => h15) (fun _ => L) (fun i => zs.length - i.1) (0, 0) ⟨by simp, rfl⟩ (.cons rfl (.cons rfl (.cons rfl (.cons rfl (.cons rfl (.nil _)))))) rfl rfl ?_
  rintro ⟨k, w⟩ ⟨hk0, hw⟩
  dsimp only at hk0 hw ⊢
  refine .seq (.text (.cmp rfl rfl rfl rfl (.done (.thenN ?_))))
  refine .seq (.cond rfl (fun hb4 => ?_) (fun hb4 => ?_))
  ·
    have hk : k < zs.length := by simp [cmpI] at hb4; omega
    refine .skip (.thenN ?_)
    refine .seq (.block (.seq (.text (.ix (i := k) hcv rfl rfl rfl hk rfl (.ldE hcv hk rfl rfl rfl fun vs hvs => ?_)))))
    obtain rfl := hvs
    refine .alloc (cs := [_, _, _, _, _, _, _]) rfl rfl rfl fun b11 => .stW rfl rfl rfl rfl rfl rfl (.done (.thenN ?_))
    refine .seq (.text (.fa rfl rfl (.ld rfl rfl rfl rfl (.cmpS rfl rfl rfl rfl (.mv rfl rfl (.or (d := 32) (g := 27) _ _ (take_drop 5) rfl rfl (fun hb6_4 => .guard rfl rfl rfl rfl (.fa rfl rfl (.guard rfl rfl rfl rfl (.ld rfl rfl rfl rfl (.guard rfl rfl rfl rfl (.mv rfl rfl (.guard rfl rfl rfl rfl (.cmpS rfl rfl rfl rfl (.pick rfl rfl rfl rfl ((.done (.thenN (.midB rfl))))))))))))) (.guardNo rfl rfl rfl rfl rfl rfl (.guardNo rfl rfl rfl rfl rfl rfl (.guardNo rfl rfl rfl rfl rfl rfl (.guardNo rfl rfl rfl rfl rfl rfl (.pick rfl rfl rfl rfl ((.done (.thenN (.midB rfl))))))))) (.done (.thenN ?_))))))))
    refine .cond rfl (fun hb6 => ?_) (fun hb6 => ?_)
    ·
      refine .text (.mv rfl rfl (.fa rfl rfl (.ld rfl rfl rfl rfl (.maxI rfl rfl rfl (.as_ rfl rfl (.done (.blkN (.thenN ?_))))))))
      refine .text (.inc rfl rfl (by have := hcv.len; unfold maxL at this; omega) rfl (.mv rfl rfl (.done (.thenN ?_))))
      refine J.dropF 1 (J.again (k + 1, _) (by dsimp only; omega) ⟨hk, ?_⟩ (.cons rfl (.cons rfl (.cons rfl (.cons rfl (.cons rfl (.nil _)))))) rfl rfl)
      dsimp only; rw [foldl_take_succ hk, ← hw, healthF, if_pos hb6]
    ·
      refine .skip (.blkN (.thenN ?_))
      refine .text (.inc rfl rfl (by have := hcv.len; unfold maxL at this; omega) rfl (.mv rfl rfl (.done (.thenN ?_))))
      refine J.dropF 1 (J.again (k + 1, _) (by dsimp only; omega) ⟨hk, ?_⟩ (.cons rfl (.cons rfl (.cons rfl (.cons rfl (.cons rfl (.nil _)))))) rfl rfl)
      dsimp only; rw [foldl_take_succ hk, ← hw, healthF, if_neg (ifn hb6)]
  ·
    have hk : k = zs.length := by simp [cmpI] at hb4; omega
    refine .exit (.thenE (.thenE (.blkHit (.thenN ?_))))
    refine .seq (.text (.mv rfl rfl (.as_ rfl rfl (.done (.thenN ?_)))))
    refine .ret ?_
    subst hk
    rw [List.take_length] at hw
    exact J.retR rfl (by simp only [resOne, healthB]; rw [hz, hw]) (List.Sublist.refl _)

theorem rlast_walk {rp t0 t1 t2 : Nat} {rv0 rv1 rv2 : Value} {m0 m1 m2 l0 l1 l2 : Int} {h : Hp} {L : List Hp} [At h L rp (.cells ⟨[.pointer (some ⟨t0, 0, none⟩), .pointer (some ⟨t1, 0, none⟩), .pointer (some ⟨t2, 0, none⟩)]⟩ 66 (0, 0))] [At h L t0 (.cells ⟨[.int .i64 m0, rv0, .int .u64 l0]⟩ 111 (0, 0))] [At h L t1 (.cells ⟨[.int .i64 m1, rv1, .int .u64 l1]⟩ 114 (0, 0))] [At h L t2 (.cells ⟨[.int .i64 m2, rv2, .int .u64 l2]⟩ 117 (0, 0))] (h0 : m0 ≠ 0) (h1 : m1 ≠ 0) (h2 : m2 ≠ 0) : FR Go.Proofs.Tryz.prog 21 [.pointer (some ⟨rp, 0, none⟩)] h L (.agg ⟨[.int .u64 l0, .int .u64 l1, .int .u64 l2]⟩) := by
  refine FS.enter Go.Proofs.Tryz.func21 rfl rfl fun w0 => ?_
  refine .seq (.text (.alloc (cs := [_, _, _]) rfl rfl rfl fun b2 => .done (.thenN ?_)))
  refine .seq (.seq (.text (.mv rfl rfl (?_))))
  refine .callR rfl rfl rnone_walk rfl rfl (.done (.thenN ?_))
  refine .condF rfl ?_
  refine .skip (.thenN ?_)
  refine .seq (.draw [(0, .pure), (1, .pure), (2, .pure), (3, .read), (5, .pure), (6, .pure), (7, .pure), (8, .read), (10, .pure), (11, .pure), (12, .pure), (13, .read), (4, .grow), (9, .grow), (14, .grow), (15, .pure), (16, .mut)] rfl (by kernel_rfl) (.mv rfl rfl (.nilOk rfl rfl (.fa rfl rfl (.ld rfl rfl rfl rfl (.mv rfl rfl (.nilOk rfl rfl (.fa rfl rfl (.ld rfl rfl rfl rfl (.mv rfl rfl (.nilOk rfl rfl (.fa rfl rfl (.ld rfl rfl rfl rfl (?_))))))))))))))
  refine .callR rfl rfl (lastNod h0) rfl rfl (?_)
  refine .callR rfl rfl (lastSvc h1) rfl rfl (?_)
  refine .callR rfl rfl (lastChk h2) rfl rfl (.bldA [_, _, _] rfl (by rfl) rfl ?_)
  refine .stW rfl rfl rfl rfl rfl rfl (.done (.thenN ?_))
  refine .ret ?_
  refine J.st (fun w s => s.shrink) (J.retBoxA rfl rfl rfl (.cons _ (List.Sublist.refl _)) ⟨rfl, rfl, rfl⟩)
end Go.Sod
