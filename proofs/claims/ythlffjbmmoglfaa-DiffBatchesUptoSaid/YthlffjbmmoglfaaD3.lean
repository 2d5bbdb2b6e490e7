/-
  drops and lays of diff, walked. Conditions: none.
-/
import Derived.Test.YthlffjbmmoglfaaD2
namespace Go.Sod
set_option linter.unusedVariables false
set_option linter.unusedSimpArgs false
set_option maxRecDepth 10000
set_option maxHeartbeats 4000000
theorem dropsS_walk {h : Hp} {B : Nat} {node : Int} {T : TypeId} {fr : Nat × Nat} (hB : h B = some (.cells ⟨[.int .i64 node]⟩ T fr)) {u v : Value} {xs ys : List Svc} (hx : SlR h 7 RSvc u xs) (hy : SlR h 7 RSvc v ys) : FH Go.Proofs.Try.prog 21 [u, v, .agg ⟨kSvc B⟩] h (fun r h' => SlR h' 17 RCmd r (dropsS xs ys node)) := by
  refine FS.enter Go.Proofs.Try.func21 rfl rfl fun w0 => ?_
  refine .seq (.text (.box (cs := [_, _, _, _]) rfl rfl rfl rfl fun b5 => .as_ rfl rfl (.done (.thenN ?_))))
  refine .seq (.text (.mv rfl rfl (.ldW rfl rfl rfl rfl (?_))))
  refine .call0 rfl rfl (knownS hx) rfl rfl fun mv h15 ms15 hl15 hr15 => ?_
  obtain ⟨rfl, m, g, rfl, hm, hkn⟩ := hr15
  simp only [List.singleton_append]
  refine .as_ rfl rfl (.done (.thenN ?_))
  refine .seq (.text (.as_ rfl rfl (.done (.thenN ?_))))
  refine .seq (.seq (.text (.mv rfl rfl (.len hy rfl rfl rfl (.mv rfl rfl (.done (.thenN ?_)))))))
  refine .block (?_)
  have h0 : SlT Hp.emp h15 nilV 17 42 RCmd ([] : List Cmd) := SlT.nil h15 17 42 RCmd
  refine J.addE ?_
  refine J.loop (ι := Nat × Value × Hp × Hp) (fun i => i.1 ≤ ys.length ∧ h15.le i.2.2.2 ∧ SlT i.2.2.1 i.2.2.2 i.2.1 17 42 RCmd (dropsS xs (ys.take i.1) node)) (fun i => [(5, .pointer (some ⟨b5, 0, none⟩)), (7, mv), (8, i.2.1), (16, v), (17, .int .i64 (ys.length : Int)), (18, .int .i64 (i.1 : Int))]) (fun i => i.2.2.2) (fun i => [i.2.2.1, m, one b5 (.cells ⟨kSvc B⟩ 52 (0, 0))]) (fun i => ys.length - i.1) (0, nilV, Hp.emp, h15) ⟨by simp, Hp.le_refl _, h0⟩ (.cons rfl (.cons rfl (.cons rfl (.cons rfl (.cons rfl (.cons rfl (.nil _))))))) rfl rfl ?_
  rintro ⟨k, lv, ml, h⟩ ⟨hk0, hle, hl⟩
  dsimp only at hk0 hle hl ⊢
  have hx := hx.mono RSvc.mono hle
  have hy := hy.mono RSvc.mono hle
  have hB := hle _ _ hB
  have hkn := hkn.mono hle
  refine .seq (.text (.cmp rfl rfl rfl rfl (.done (.thenN ?_))))
  refine .seq (.cond rfl (fun hb4 => ?_) (fun hb4 => ?_))
  ·
    have hk : k < ys.length := by simpa [cmpI] using hb4
    refine .skip (.thenN ?_)
    refine .seq (.block (.seq (.text (.ix hy rfl rfl rfl hk rfl (.ldE hy hk rfl rfl rfl fun vs hvs => ?_)))))
    obtain ⟨tv, rfl, htv⟩ := hvs
    obtain ⟨A, c, rfl⟩ := htv.form
    refine .alloc (cs := [_, _, _, _, _, _, _]) rfl rfl rfl fun b10 => .stW rfl rfl rfl rfl rfl rfl (.done (.thenN ?_))
    refine .seq (.text (.mv rfl rfl (.fa rfl rfl (.ld rfl rfl rfl rfl (.ldW rfl rfl rfl rfl (?_))))))
    refine .callV rfl rfl (services1 (s := ys[k])) rfl rfl (.mapGet hm rfl rfl rfl rfl ?_)
    obtain ⟨A2, c2, g1, g2, g3⟩ := hkn.get ys[k].id
    rw [show (.agg ⟨[.int .i64 0, .string ⟨#[]⟩, .string ⟨#[]⟩, .slice none 0 0, .int .i64 0, .int .u64 0, .int .u64 0]⟩ : Value) = .agg ⟨svcV svc0 (.slice none 0 0)⟩ from rfl, g1, g3]
    refine .mv rfl rfl (.ext rfl rfl rfl (.ext rfl rfl rfl (.alloc (cs := [_, _, _, _, _, _, _]) rfl rfl rfl fun b11 => .stW rfl rfl rfl rfl rfl rfl (.as_ rfl rfl (.done (.thenN ?_))))))
    refine .seq (.text (.mv rfl rfl (.not rfl rfl (.done (.thenN ?_)))))
    refine .cond rfl (fun hb7 => ?_) (fun hb7 => ?_)
    ·
      refine .draw [(0, .pure), (1, .pure), (2, .read), (3, .pure), (4, .read), (5, .read), (6, .grow), (7, .grow), (8, .grow), (9, .mut), (10, .pure)] rfl (by kernel_rfl) (.mv rfl rfl (.fa rfl rfl (.ld rfl rfl rfl rfl (.fa rfl rfl (.ld rfl rfl rfl rfl (.ldW rfl rfl rfl rfl (?_)))))))
      refine .callV rfl rfl (services1 (s := ys[k])) rfl rfl (?_)
      refine .callV rfl rfl (services3 hB) rfl rfl (.bs [_, _, _, _, _, _, _, _, _, _, _, _, _, _, _, _, _] rfl rfl rfl rfl (by decide) rfl rfl rfl fun b41 => .app1 rfl hl rfl rfl (by rfl) (by rfl) (⟨1, nilV, nilV, rfl, SlR.nil _ _ _, SlR.nil _ _ _⟩) (by have := dropsS_len xs (ys.take k) node; have := hy.len; simp only [List.length_take] at *; omega) rfl rfl fun v42 m42 hm42 => .as_ rfl rfl (.done (.blkN (.thenN ?_))))
      refine .text (.inc rfl rfl (by have := hy.len; unfold maxL at this; omega) rfl (.mv rfl rfl (.done (.thenN ?_))))
      refine J.dropF 3 ?_
      refine J.again (k + 1, v42, m42, h) (by simp; omega) ⟨hk, hle, ?_⟩ (.cons rfl (.cons rfl (.cons rfl (.cons rfl (.cons rfl (.cons rfl (.nil _))))))) rfl rfl
      show SlT _ _ _ 17 42 RCmd ((dropsS xs (ys.take (k + 1)) node))
      rw [take_succ' hk, dropsS_push]
      rw [if_neg (by simpa using hb7)]
      exact hm42
    ·
      refine .skip (.blkN (.thenN ?_))
      refine .text (.inc rfl rfl (by have := hy.len; unfold maxL at this; omega) rfl (.mv rfl rfl (.done (.thenN ?_))))
      refine J.dropF 2 ?_
      refine J.again (k + 1, lv, ml, h) (by simp; omega) ⟨hk, hle, ?_⟩ (.cons rfl (.cons rfl (.cons rfl (.cons rfl (.cons rfl (.cons rfl (.nil _))))))) rfl rfl
      show SlT _ _ _ 17 42 RCmd ((dropsS xs (ys.take (k + 1)) node))
      rw [take_succ' hk, dropsS_push]
      rw [if_pos (by simpa using hb7), List.append_nil]
      exact hl
  ·
    refine .exit (.thenE (.thenE (.blkHit (.thenN ?_))))
    refine .seq (.text (.mv rfl rfl (.as_ rfl rfl (.done (.thenN ?_)))))
    refine .ret ?_
    have hk : k = ys.length := by simp [cmpI] at hb4; omega
    subst hk
    rw [List.take_length] at hl
    refine J.frz hl RCmd.mono fun h' hl' hs => ?_
    exact J.retH rfl hs

theorem dropsC_walk {h : Hp} {B : Nat} {node : Int} {T : TypeId} {fr : Nat × Nat} (hB : h B = some (.cells ⟨[.int .i64 node]⟩ T fr)) {u v : Value} {xs ys : List Chk} (hx : SlR h 7 RChk u xs) (hy : SlR h 7 RChk v ys) : FH Go.Proofs.Try.prog 20 [u, v, .agg ⟨kChk B⟩] h (fun r h' => SlR h' 17 RCmd r (dropsC xs ys node)) := by
  refine FS.enter Go.Proofs.Try.func20 rfl rfl fun w0 => ?_
  refine .seq (.text (.box (cs := [_, _, _, _]) rfl rfl rfl rfl fun b5 => .as_ rfl rfl (.done (.thenN ?_))))
  refine .seq (.text (.mv rfl rfl (.ldW rfl rfl rfl rfl (?_))))
  refine .call0 rfl rfl (knownC hx) rfl rfl fun mv h15 ms15 hl15 hr15 => ?_
  obtain ⟨rfl, m, g, rfl, hm, hkn⟩ := hr15
  simp only [List.singleton_append]
  refine .as_ rfl rfl (.done (.thenN ?_))
  refine .seq (.text (.as_ rfl rfl (.done (.thenN ?_))))
  refine .seq (.seq (.text (.mv rfl rfl (.len hy rfl rfl rfl (.mv rfl rfl (.done (.thenN ?_)))))))
  refine .block (?_)
  have h0 : SlT Hp.emp h15 nilV 17 42 RCmd ([] : List Cmd) := SlT.nil h15 17 42 RCmd
  refine J.addE ?_
  refine J.loop (ι := Nat × Value × Hp × Hp) (fun i => i.1 ≤ ys.length ∧ h15.le i.2.2.2 ∧ SlT i.2.2.1 i.2.2.2 i.2.1 17 42 RCmd (dropsC xs (ys.take i.1) node)) (fun i => [(5, .pointer (some ⟨b5, 0, none⟩)), (7, mv), (8, i.2.1), (16, v), (17, .int .i64 (ys.length : Int)), (18, .int .i64 (i.1 : Int))]) (fun i => i.2.2.2) (fun i => [i.2.2.1, m, one b5 (.cells ⟨kChk B⟩ 58 (0, 0))]) (fun i => ys.length - i.1) (0, nilV, Hp.emp, h15) ⟨by simp, Hp.le_refl _, h0⟩ (.cons rfl (.cons rfl (.cons rfl (.cons rfl (.cons rfl (.cons rfl (.nil _))))))) rfl rfl ?_
  rintro ⟨k, lv, ml, h⟩ ⟨hk0, hle, hl⟩
  dsimp only at hk0 hle hl ⊢
  have hx := hx.mono RChk.mono hle
  have hy := hy.mono RChk.mono hle
  have hB := hle _ _ hB
  refine .seq (.text (.cmp rfl rfl rfl rfl (.done (.thenN ?_))))
  refine .seq (.cond rfl (fun hb4 => ?_) (fun hb4 => ?_))
  ·
    have hk : k < ys.length := by simpa [cmpI] using hb4
    refine .skip (.thenN ?_)
    refine .seq (.block (.seq (.text (.ix hy rfl rfl rfl hk rfl (.ldE hy hk rfl rfl rfl fun vs hvs => ?_)))))
    obtain rfl := hvs
    refine .alloc (cs := [_, _, _, _, _, _, _]) rfl rfl rfl fun b10 => .stW rfl rfl rfl rfl rfl rfl (.done (.thenN ?_))
    refine .seq (.text (.mv rfl rfl (.fa rfl rfl (.ld rfl rfl rfl rfl (.ldW rfl rfl rfl rfl (?_))))))
    refine .callV rfl rfl (checks1 (s := ys[k])) rfl rfl (.mapGet hm rfl rfl rfl rfl ?_)
    obtain ⟨g1, g3⟩ := KnC.get hkn ys[k].id
    rw [show (.agg ⟨[.int .i64 0, .string ⟨#[]⟩, .string ⟨#[]⟩, .string ⟨#[]⟩, .int .i64 0, .int .u64 0, .int .u64 0]⟩ : Value) = .agg ⟨chkV chk0⟩ from rfl, g1, g3]
    refine .mv rfl rfl (.ext rfl rfl rfl (.ext rfl rfl rfl (.alloc (cs := [_, _, _, _, _, _, _]) rfl rfl rfl fun b11 => .stW rfl rfl rfl rfl rfl rfl (.as_ rfl rfl (.done (.thenN ?_))))))
    refine .seq (.text (.mv rfl rfl (.not rfl rfl (.done (.thenN ?_)))))
    refine .cond rfl (fun hb7 => ?_) (fun hb7 => ?_)
    ·
      refine .draw [(0, .pure), (1, .pure), (2, .read), (3, .pure), (4, .read), (5, .read), (6, .grow), (7, .grow), (8, .grow), (9, .mut), (10, .pure)] rfl (by kernel_rfl) (.mv rfl rfl (.fa rfl rfl (.ld rfl rfl rfl rfl (.fa rfl rfl (.ld rfl rfl rfl rfl (.ldW rfl rfl rfl rfl (?_)))))))
      refine .callV rfl rfl (checks1 (s := ys[k])) rfl rfl (?_)
      refine .callV rfl rfl (checks3 hB) rfl rfl (.bs [_, _, _, _, _, _, _, _, _, _, _, _, _, _, _, _, _] rfl rfl rfl rfl (by decide) rfl rfl rfl fun b41 => .app1 rfl hl rfl rfl (by rfl) (by rfl) (⟨1, nilV, nilV, rfl, SlR.nil _ _ _, SlR.nil _ _ _⟩) (by have := dropsC_len xs (ys.take k) node; have := hy.len; simp only [List.length_take] at *; omega) rfl rfl fun v42 m42 hm42 => .as_ rfl rfl (.done (.blkN (.thenN ?_))))
      refine .text (.inc rfl rfl (by have := hy.len; unfold maxL at this; omega) rfl (.mv rfl rfl (.done (.thenN ?_))))
      refine J.dropF 3 ?_
      refine J.again (k + 1, v42, m42, h) (by simp; omega) ⟨hk, hle, ?_⟩ (.cons rfl (.cons rfl (.cons rfl (.cons rfl (.cons rfl (.cons rfl (.nil _))))))) rfl rfl
      show SlT _ _ _ 17 42 RCmd ((dropsC xs (ys.take (k + 1)) node))
      rw [take_succ' hk, dropsC_push]
      rw [if_neg (by simpa using hb7)]
      exact hm42
    ·
      refine .skip (.blkN (.thenN ?_))
      refine .text (.inc rfl rfl (by have := hy.len; unfold maxL at this; omega) rfl (.mv rfl rfl (.done (.thenN ?_))))
      refine J.dropF 2 ?_
      refine J.again (k + 1, lv, ml, h) (by simp; omega) ⟨hk, hle, ?_⟩ (.cons rfl (.cons rfl (.cons rfl (.cons rfl (.cons rfl (.cons rfl (.nil _))))))) rfl rfl
      show SlT _ _ _ 17 42 RCmd ((dropsC xs (ys.take (k + 1)) node))
      rw [take_succ' hk, dropsC_push]
      rw [if_pos (by simpa using hb7), List.append_nil]
      exact hl
  ·
    refine .exit (.thenE (.thenE (.blkHit (.thenN ?_))))
    refine .seq (.text (.mv rfl rfl (.as_ rfl rfl (.done (.thenN ?_)))))
    refine .ret ?_
    have hk : k = ys.length := by simp [cmpI] at hb4; omega
    subst hk
    rw [List.take_length] at hl
    refine J.frz hl RCmd.mono fun h' hl' hs => ?_
    exact J.retH rfl hs

theorem laysS_walk {h : Hp} {B : Nat} {node : Int} {T : TypeId} {fr : Nat × Nat} (hB : h B = some (.cells ⟨[.int .i64 node]⟩ T fr)) {u v : Value} {xs ys : List Svc} (hx : SlR h 7 RSvc u xs) (hy : SlR h 7 RSvc v ys) : FH Go.Proofs.Try.prog 22 [u, v, .agg ⟨kSvc B⟩] h (fun r h' => SlR h' 17 RCmd r (laysS xs ys node)) := by
  refine FS.enter Go.Proofs.Try.func22 rfl rfl fun w0 => ?_
  refine .seq (.text (.box (cs := [_, _, _, _]) rfl rfl rfl rfl fun b5 => .as_ rfl rfl (.done (.thenN ?_))))
  refine .seq (.text (.mv rfl rfl (.ldW rfl rfl rfl rfl (?_))))
  refine .call0 rfl rfl (knownS hy) rfl rfl fun mv h15 ms15 hl15 hr15 => ?_
  obtain ⟨rfl, m, g, rfl, hm, hkn⟩ := hr15
  simp only [List.singleton_append]
  refine .as_ rfl rfl (.done (.thenN ?_))
  refine .seq (.text (.as_ rfl rfl (.done (.thenN ?_))))
  refine .seq (.seq (.text (.mv rfl rfl (.len hx rfl rfl rfl (.mv rfl rfl (.done (.thenN ?_)))))))
  refine .block (?_)
  have h0 : SlT Hp.emp h15 nilV 17 42 RCmd ([] : List Cmd) := SlT.nil h15 17 42 RCmd
  refine J.addE ?_
  refine J.loop (ι := Nat × Value × Hp × Hp) (fun i => i.1 ≤ xs.length ∧ h15.le i.2.2.2 ∧ SlT i.2.2.1 i.2.2.2 i.2.1 17 42 RCmd (laysS (xs.take i.1) ys node)) (fun i => [(5, .pointer (some ⟨b5, 0, none⟩)), (7, mv), (8, i.2.1), (16, u), (17, .int .i64 (xs.length : Int)), (18, .int .i64 (i.1 : Int))]) (fun i => i.2.2.2) (fun i => [i.2.2.1, m, one b5 (.cells ⟨kSvc B⟩ 52 (0, 0))]) (fun i => xs.length - i.1) (0, nilV, Hp.emp, h15) ⟨by simp, Hp.le_refl _, h0⟩ (.cons rfl (.cons rfl (.cons rfl (.cons rfl (.cons rfl (.cons rfl (.nil _))))))) rfl rfl ?_
  rintro ⟨k, lv, ml, h⟩ ⟨hk0, hle, hl⟩
  dsimp only at hk0 hle hl ⊢
  have hx := hx.mono RSvc.mono hle
  have hy := hy.mono RSvc.mono hle
  have hB := hle _ _ hB
  have hkn := hkn.mono hle
  refine .seq (.text (.cmp rfl rfl rfl rfl (.done (.thenN ?_))))
  refine .seq (.cond rfl (fun hb4 => ?_) (fun hb4 => ?_))
  ·
    have hk : k < xs.length := by simpa [cmpI] using hb4
    refine .skip (.thenN ?_)
    refine .seq (.block (.seq (.text (.ix hx rfl rfl rfl hk rfl (.ldE hx hk rfl rfl rfl fun vs hvs => ?_)))))
    obtain ⟨tv, rfl, htv⟩ := hvs
    obtain ⟨A, c, rfl⟩ := htv.form
    refine .alloc (cs := [_, _, _, _, _, _, _]) rfl rfl rfl fun b10 => .stW rfl rfl rfl rfl rfl rfl (.done (.thenN ?_))
    refine .seq (.text (.mv rfl rfl (.fa rfl rfl (.ld rfl rfl rfl rfl (.ldW rfl rfl rfl rfl (?_))))))
    refine .callV rfl rfl (services1 (s := xs[k])) rfl rfl (.mapGet hm rfl rfl rfl rfl ?_)
    obtain ⟨A2, c2, g1, g2, g3⟩ := hkn.get xs[k].id
    rw [show (.agg ⟨[.int .i64 0, .string ⟨#[]⟩, .string ⟨#[]⟩, .slice none 0 0, .int .i64 0, .int .u64 0, .int .u64 0]⟩ : Value) = .agg ⟨svcV svc0 (.slice none 0 0)⟩ from rfl, g1, g3]
    refine .mv rfl rfl (.ext rfl rfl rfl (.ext rfl rfl rfl (.alloc (cs := [_, _, _, _, _, _, _]) rfl rfl rfl fun b11 => .stW rfl rfl rfl rfl rfl rfl (.as_ rfl rfl (.done (.thenN ?_))))))
    refine .seq (.text (.mv rfl rfl (.not rfl rfl (.mv rfl rfl (.or (d := 40) (g := 33) _ _ (take_drop 7) rfl rfl (fun hb7_3 => .guard rfl rfl rfl rfl (.fa rfl rfl (.guard rfl rfl rfl rfl (.ld (v := fnV 28 []) rfl rfl rfl rfl (.guard rfl rfl rfl rfl (.ldW rfl rfl rfl rfl (.guard rfl rfl rfl rfl (.ldW rfl rfl rfl rfl (.guard rfl rfl rfl rfl (.callV rfl rfl (services2 htv g2) rfl rfl (.guard rfl rfl rfl rfl (.not rfl rfl (.pick rfl rfl rfl rfl ((.done (.thenN (.midB rfl))))))))))))))))) (.guardNo rfl rfl rfl rfl rfl rfl (.guardNo rfl rfl rfl rfl rfl rfl (.guardNo rfl rfl rfl rfl rfl rfl (.guardNo rfl rfl rfl rfl rfl rfl (.guardNo rfl rfl rfl rfl rfl rfl (.guardNo rfl rfl rfl rfl rfl rfl (.pick rfl rfl rfl rfl ((.done (.thenN (.midB rfl))))))))))) (.done (.thenN ?_)))))))
    refine .cond rfl (fun hb7 => ?_) (fun hb7 => ?_)
    ·
      refine .text (.mv rfl rfl (.fa rfl rfl (.ld rfl rfl rfl rfl (.ldW rfl rfl rfl rfl (?_)))))
      refine .callH rfl rfl (services4 (s := xs[k]) hB htv) rfl rfl fun u45 h45 hl45 hu45 => ?_
      obtain ⟨vs45, rfl, hc⟩ := hu45
      obtain ⟨hlen45, hone45⟩ := RCmd.form hc
      have hl := hl.mono RCmd.mono hl45
      refine .bs vs45 rfl (inTurn_one hlen45) rfl rfl (by decide) flatV_one rfl rfl fun b46 => .app1 rfl hl rfl rfl (hlen45) (hone45) (hc) (by have := laysS_len (xs.take k) ys node; have := hx.len; simp only [List.length_take] at *; omega) rfl rfl fun v47 m47 hm47 => .as_ rfl rfl (.done (.blkN (.thenN ?_)))
      refine .text (.inc rfl rfl (by have := hx.len; unfold maxL at this; omega) rfl (.mv rfl rfl (.done (.thenN ?_))))
      refine J.dropF 3 ?_
      refine J.again (k + 1, v47, m47, h45) (by simp; omega) ⟨hk, Hp.le_trans hle hl45, ?_⟩ (.cons rfl (.cons rfl (.cons rfl (.cons rfl (.cons rfl (.cons rfl (.nil _))))))) rfl rfl
      show SlT _ _ _ 17 42 RCmd ((laysS (xs.take (k + 1)) ys node))
      rw [take_succ' hk, laysS_push]
      rw [if_pos hb7]
      exact hm47
    ·
      refine .skip (.blkN (.thenN ?_))
      refine .text (.inc rfl rfl (by have := hx.len; unfold maxL at this; omega) rfl (.mv rfl rfl (.done (.thenN ?_))))
      refine J.dropF 2 ?_
      refine J.again (k + 1, lv, ml, h) (by simp; omega) ⟨hk, hle, ?_⟩ (.cons rfl (.cons rfl (.cons rfl (.cons rfl (.cons rfl (.cons rfl (.nil _))))))) rfl rfl
      show SlT _ _ _ 17 42 RCmd ((laysS (xs.take (k + 1)) ys node))
      rw [take_succ' hk, laysS_push]
      rw [if_neg (by rw [hb7]; decide), List.append_nil]
      exact hl
  ·
    refine .exit (.thenE (.thenE (.blkHit (.thenN ?_))))
    refine .seq (.text (.mv rfl rfl (.as_ rfl rfl (.done (.thenN ?_)))))
    refine .ret ?_
    have hk : k = xs.length := by simp [cmpI] at hb4; omega
    subst hk
    rw [List.take_length] at hl
    refine J.frz hl RCmd.mono fun h' hl' hs => ?_
    exact J.retH rfl hs

theorem laysC_walk {h : Hp} {B : Nat} {node : Int} {T : TypeId} {fr : Nat × Nat} (hB : h B = some (.cells ⟨[.int .i64 node]⟩ T fr)) {u v : Value} {xs ys : List Chk} (hx : SlR h 7 RChk u xs) (hy : SlR h 7 RChk v ys) : FH Go.Proofs.Try.prog 23 [u, v, .agg ⟨kChk B⟩] h (fun r h' => SlR h' 17 RCmd r (laysC xs ys node)) := by
  refine FS.enter Go.Proofs.Try.func23 rfl rfl fun w0 => ?_
  refine .seq (.text (.box (cs := [_, _, _, _]) rfl rfl rfl rfl fun b5 => .as_ rfl rfl (.done (.thenN ?_))))
  refine .seq (.text (.mv rfl rfl (.ldW rfl rfl rfl rfl (?_))))
  refine .call0 rfl rfl (knownC hy) rfl rfl fun mv h15 ms15 hl15 hr15 => ?_
  obtain ⟨rfl, m, g, rfl, hm, hkn⟩ := hr15
  simp only [List.singleton_append]
  refine .as_ rfl rfl (.done (.thenN ?_))
  refine .seq (.text (.as_ rfl rfl (.done (.thenN ?_))))
  refine .seq (.seq (.text (.mv rfl rfl (.len hx rfl rfl rfl (.mv rfl rfl (.done (.thenN ?_)))))))
  refine .block (?_)
  have h0 : SlT Hp.emp h15 nilV 17 42 RCmd ([] : List Cmd) := SlT.nil h15 17 42 RCmd
  refine J.addE ?_
  refine J.loop (ι := Nat × Value × Hp × Hp) (fun i => i.1 ≤ xs.length ∧ h15.le i.2.2.2 ∧ SlT i.2.2.1 i.2.2.2 i.2.1 17 42 RCmd (laysC (xs.take i.1) ys node)) (fun i => [(5, .pointer (some ⟨b5, 0, none⟩)), (7, mv), (8, i.2.1), (16, u), (17, .int .i64 (xs.length : Int)), (18, .int .i64 (i.1 : Int))]) (fun i => i.2.2.2) (fun i => [i.2.2.1, m, one b5 (.cells ⟨kChk B⟩ 58 (0, 0))]) (fun i => xs.length - i.1) (0, nilV, Hp.emp, h15) ⟨by simp, Hp.le_refl _, h0⟩ (.cons rfl (.cons rfl (.cons rfl (.cons rfl (.cons rfl (.cons rfl (.nil _))))))) rfl rfl ?_
  rintro ⟨k, lv, ml, h⟩ ⟨hk0, hle, hl⟩
  dsimp only at hk0 hle hl ⊢
  have hx := hx.mono RChk.mono hle
  have hy := hy.mono RChk.mono hle
  have hB := hle _ _ hB
  refine .seq (.text (.cmp rfl rfl rfl rfl (.done (.thenN ?_))))
  refine .seq (.cond rfl (fun hb4 => ?_) (fun hb4 => ?_))
  ·
    have hk : k < xs.length := by simpa [cmpI] using hb4
    refine .skip (.thenN ?_)
    refine .seq (.block (.seq (.text (.ix hx rfl rfl rfl hk rfl (.ldE hx hk rfl rfl rfl fun vs hvs => ?_)))))
    obtain rfl := hvs
    refine .alloc (cs := [_, _, _, _, _, _, _]) rfl rfl rfl fun b10 => .stW rfl rfl rfl rfl rfl rfl (.done (.thenN ?_))
    refine .seq (.text (.mv rfl rfl (.fa rfl rfl (.ld rfl rfl rfl rfl (.ldW rfl rfl rfl rfl (?_))))))
    refine .callV rfl rfl (checks1 (s := xs[k])) rfl rfl (.mapGet hm rfl rfl rfl rfl ?_)
    obtain ⟨g1, g3⟩ := KnC.get hkn xs[k].id
    rw [show (.agg ⟨[.int .i64 0, .string ⟨#[]⟩, .string ⟨#[]⟩, .string ⟨#[]⟩, .int .i64 0, .int .u64 0, .int .u64 0]⟩ : Value) = .agg ⟨chkV chk0⟩ from rfl, g1, g3]
    refine .mv rfl rfl (.ext rfl rfl rfl (.ext rfl rfl rfl (.alloc (cs := [_, _, _, _, _, _, _]) rfl rfl rfl fun b11 => .stW rfl rfl rfl rfl rfl rfl (.as_ rfl rfl (.done (.thenN ?_))))))
    refine .seq (.text (.mv rfl rfl (.not rfl rfl (.mv rfl rfl (.or (d := 40) (g := 33) _ _ (take_drop 7) rfl rfl (fun hb7_3 => .guard rfl rfl rfl rfl (.fa rfl rfl (.guard rfl rfl rfl rfl (.ld (v := fnV 34 []) rfl rfl rfl rfl (.guard rfl rfl rfl rfl (.ldW rfl rfl rfl rfl (.guard rfl rfl rfl rfl (.ldW rfl rfl rfl rfl (.guard rfl rfl rfl rfl (.callV rfl rfl (checks2) rfl rfl (.guard rfl rfl rfl rfl (.not rfl rfl (.pick rfl rfl rfl rfl ((.done (.thenN (.midB rfl))))))))))))))))) (.guardNo rfl rfl rfl rfl rfl rfl (.guardNo rfl rfl rfl rfl rfl rfl (.guardNo rfl rfl rfl rfl rfl rfl (.guardNo rfl rfl rfl rfl rfl rfl (.guardNo rfl rfl rfl rfl rfl rfl (.guardNo rfl rfl rfl rfl rfl rfl (.pick rfl rfl rfl rfl ((.done (.thenN (.midB rfl))))))))))) (.done (.thenN ?_)))))))
    refine .cond rfl (fun hb7 => ?_) (fun hb7 => ?_)
    ·
      refine .text (.mv rfl rfl (.fa rfl rfl (.ld rfl rfl rfl rfl (.ldW rfl rfl rfl rfl (?_)))))
      refine .callH rfl rfl (checks4 (s := xs[k]) hB) rfl rfl fun u45 h45 hl45 hu45 => ?_
      obtain ⟨vs45, rfl, hc⟩ := hu45
      obtain ⟨hlen45, hone45⟩ := RCmd.form hc
      have hl := hl.mono RCmd.mono hl45
      refine .bs vs45 rfl (inTurn_one hlen45) rfl rfl (by decide) flatV_one rfl rfl fun b46 => .app1 rfl hl rfl rfl (hlen45) (hone45) (hc) (by have := laysC_len (xs.take k) ys node; have := hx.len; simp only [List.length_take] at *; omega) rfl rfl fun v47 m47 hm47 => .as_ rfl rfl (.done (.blkN (.thenN ?_)))
      refine .text (.inc rfl rfl (by have := hx.len; unfold maxL at this; omega) rfl (.mv rfl rfl (.done (.thenN ?_))))
      refine J.dropF 3 ?_
      refine J.again (k + 1, v47, m47, h45) (by simp; omega) ⟨hk, Hp.le_trans hle hl45, ?_⟩ (.cons rfl (.cons rfl (.cons rfl (.cons rfl (.cons rfl (.cons rfl (.nil _))))))) rfl rfl
      show SlT _ _ _ 17 42 RCmd ((laysC (xs.take (k + 1)) ys node))
      rw [take_succ' hk, laysC_push]
      rw [if_pos hb7]
      exact hm47
    ·
      refine .skip (.blkN (.thenN ?_))
      refine .text (.inc rfl rfl (by have := hx.len; unfold maxL at this; omega) rfl (.mv rfl rfl (.done (.thenN ?_))))
      refine J.dropF 2 ?_
      refine J.again (k + 1, lv, ml, h) (by simp; omega) ⟨hk, hle, ?_⟩ (.cons rfl (.cons rfl (.cons rfl (.cons rfl (.cons rfl (.cons rfl (.nil _))))))) rfl rfl
      show SlT _ _ _ 17 42 RCmd ((laysC (xs.take (k + 1)) ys node))
      rw [take_succ' hk, laysC_push]
      rw [if_neg (by rw [hb7]; decide), List.append_nil]
      exact hl
  ·
    refine .exit (.thenE (.thenE (.blkHit (.thenN ?_))))
    refine .seq (.text (.mv rfl rfl (.as_ rfl rfl (.done (.thenN ?_)))))
    refine .ret ?_
    have hk : k = xs.length := by simp [cmpI] at hb4; omega
    subst hk
    rw [List.take_length] at hl
    refine J.frz hl RCmd.mono fun h' hl' hs => ?_
    exact J.retH rfl hs
end Go.Sod
