/-
  Comparisons, and a roster of three, walked. Conditions: none.
-/
import Derived.Test.YtemcklmfpapmpaaGreatL2
namespace Go.Sod
set_option linter.unusedVariables false
set_option linter.unusedSimpArgs false
set_option maxRecDepth 10000
set_option maxHeartbeats 4000000

section
variable {C : Cx} {ds : List Deferred} {env : Env} {h : Hp} {L : List Hp} {K : Act → World → Prop} {a0 a1 a2 b0 b1 b2 : Hp}
theorem J.open6 (d0 : (a0.un b0).dis ((a1.un b1).un (a2.un b2))) (d1 : (a1.un b1).dis (a2.un b2)) (e0 : a0.dis b0) (e1 : a1.dis b1) (e2 : a2.dis b2) (j : J C K ds env h (a2 :: b2 :: a1 :: b1 :: a0 :: b0 :: L)) : J C K ds env h ((a0.un b0).un ((a1.un b1).un (a2.un b2)) :: L) :=
  J.open3 d0 d1 (J.open e0 (J.front 2 rfl (J.open e1 (J.front 4 rfl (J.open e2 j)))))
theorem J.shut6 (j : (a0.un b0).dis ((a1.un b1).un (a2.un b2)) → (a1.un b1).dis (a2.un b2) → a0.dis b0 → a1.dis b1 → a2.dis b2 → J C K ds env h ((a0.un b0).un ((a1.un b1).un (a2.un b2)) :: L)) : J C K ds env h (a2 :: b2 :: a1 :: b1 :: a0 :: b0 :: L) :=
  J.shut fun e2 => J.front 2 rfl (J.front 2 rfl (J.shut fun e1 => J.front 3 rfl (J.front 3 rfl (J.shut fun e0 => J.shut3 fun d0 d1 => j d0 d1 e0 e1 e2))))
end

theorem same01T_walk {h : Hp} {u v : Value} {xs : List ByteArray} (hx : SlR h 1 RS u xs) (hy : SlR h 1 RS v xs) : FV Go.Proofs.Tryz.prog 82 [u, v] h (.bool true) := by
  refine FS.enter Go.Proofs.Tryz.func82 rfl rfl fun w0 => ?_
  refine .seq (.text (.as_ rfl rfl (.done (.thenN ?_))))
  refine .seq (.seq (.text (.mv rfl rfl (.len hx rfl rfl rfl (.mv rfl rfl (.len hy rfl rfl rfl (.cmp (b := false) rfl rfl (by simp [cmpI]) rfl (.done (.thenN ?_)))))))))
  refine .condF rfl ?_
  refine .skip (.thenN ?_)
  refine .seq (.seq (.text (.as_ rfl rfl (.done (.thenN ?_)))))
  refine .block (?_)
  refine J.loop (fun k : Nat => k ≤ xs.length) (fun k => [(0, u), (1, v), (5, .int .i64 (k : Int))]) (fun _ => h) (fun _ => []) (fun k => xs.length - k) 0 (Nat.zero_le _) (.cons rfl (.cons rfl (.cons rfl (.nil _)))) rfl rfl ?_
  intro k hk0
  refine .seq (.seq (.text (.mv rfl rfl (.mv rfl rfl (.len hx rfl rfl rfl (.cmp rfl rfl rfl rfl (.done (.thenN ?_))))))))
  refine .cond rfl (fun hb4 => ?_) (fun hb4 => ?_)
  ·
    have hk : k < xs.length := by simp [cmpI] at hb4; omega
    refine .skip (.thenN ?_)
    refine .seq (.block (.seq (.draw [(0, .pure), (1, .pure), (2, .pure), (3, .read), (4, .pure), (5, .pure), (6, .pure), (7, .read), (8, .pure)] rfl (by kernel_rfl) (.mv rfl rfl (.mv rfl rfl (.ix (i := k) hx rfl rfl rfl hk rfl (.ldG (sz := 1) (off := 0) (.string xs[k]) hx hk (by rfl) (fun vs e => by obtain rfl := e; rfl) rfl rfl (.mv rfl rfl (.mv rfl rfl (.ix (i := k) hy rfl rfl rfl hk rfl (.ldG (sz := 1) (off := 0) (.string xs[k]) hy hk (by rfl) (fun vs e => by obtain rfl := e; rfl) rfl rfl (.cmpS (b := false) rfl rfl (by simp [cmpS]) rfl (.done (.thenN ?_))))))))))))))
    refine .condF rfl ?_
    refine .skip (.blkN (.thenN ?_))
    refine .text (.mv rfl rfl (.inc rfl rfl (by have := hx.len; unfold maxL at this; omega) rfl (.as_ rfl rfl (.done (.thenN ?_)))))
    exact J.again (k + 1) (by omega) hk (.cons rfl (.cons rfl (.cons rfl (.nil _)))) rfl rfl
  ·
    refine .exit (.thenE (.thenE (.blkHit (.thenN ?_))))
    refine .seq (.text (.as_ rfl rfl (.done (.thenN ?_))))
    refine .ret ?_
    exact J.retV rfl (by simp [resOne])

theorem sameN_walk {h : Hp} {u v : Value} {xs : List Nod} (hx : SlR h 4 RNod u xs) (hy : SlR h 4 RNod v xs) : FV Go.Proofs.Tryz.prog 36 [u, v] h (.bool true) := by
  refine FS.enter Go.Proofs.Tryz.func36 rfl rfl fun w0 => ?_
  refine .seq (.text (.as_ rfl rfl (.done (.thenN ?_))))
  refine .seq (.seq (.text (.mv rfl rfl (.len hx rfl rfl rfl (.mv rfl rfl (.len hy rfl rfl rfl (.cmp (b := false) rfl rfl (by simp [cmpI]) rfl (.done (.thenN ?_)))))))))
  refine .condF rfl ?_
  refine .skip (.thenN ?_)
  refine .seq (.seq (.text (.as_ rfl rfl (.done (.thenN ?_)))))
  refine .block (?_)
  refine J.loop (fun k : Nat => k ≤ xs.length) (fun k => [(0, u), (1, v), (5, .int .i64 (k : Int))]) (fun _ => h) (fun _ => []) (fun k => xs.length - k) 0 (Nat.zero_le _) (.cons rfl (.cons rfl (.cons rfl (.nil _)))) rfl rfl ?_
  intro k hk0
  refine .seq (.seq (.text (.mv rfl rfl (.mv rfl rfl (.len hx rfl rfl rfl (.cmp rfl rfl rfl rfl (.done (.thenN ?_))))))))
  refine .cond rfl (fun hb4 => ?_) (fun hb4 => ?_)
  ·
    have hk : k < xs.length := by simp [cmpI] at hb4; omega
    refine .skip (.thenN ?_)
    refine .seq (.block (.seq (.draw [(0, .pure), (1, .pure), (2, .pure), (3, .read), (4, .pure), (5, .pure), (6, .pure), (7, .read), (8, .pure)] rfl (by kernel_rfl) (.mv rfl rfl (.mv rfl rfl (.ix (i := k) hx rfl rfl rfl hk rfl (.ldE hx hk rfl rfl rfl fun vs hvs => ?_)))))))
    obtain rfl := hvs
    refine .mv rfl rfl (.mv rfl rfl (.ix (i := k) hy rfl rfl rfl hk rfl (.ldE hy hk rfl rfl rfl fun vs hvs => ?_)))
    obtain rfl := hvs
    refine .eqA (b := true) rfl rfl (by simp [eqLs, eqK]) (.inr ⟨rfl, rfl⟩) rfl (.done (.thenN ?_))
    refine .condF rfl ?_
    refine .skip (.blkN (.thenN ?_))
    refine .text (.mv rfl rfl (.inc rfl rfl (by have := hx.len; unfold maxL at this; omega) rfl (.as_ rfl rfl (.done (.thenN ?_)))))
    exact J.again (k + 1) (by omega) hk (.cons rfl (.cons rfl (.cons rfl (.nil _)))) rfl rfl
  ·
    refine .exit (.thenE (.thenE (.blkHit (.thenN ?_))))
    refine .seq (.text (.as_ rfl rfl (.done (.thenN ?_))))
    refine .ret ?_
    exact J.retV rfl (by simp [resOne])

theorem sameC_walk {h : Hp} {u v : Value} {xs : List Chk} (hx : SlR h 7 RChk u xs) (hy : SlR h 7 RChk v xs) : FV Go.Proofs.Tryz.prog 38 [u, v] h (.bool true) := by
  refine FS.enter Go.Proofs.Tryz.func38 rfl rfl fun w0 => ?_
  refine .seq (.text (.as_ rfl rfl (.done (.thenN ?_))))
  refine .seq (.seq (.text (.mv rfl rfl (.len hx rfl rfl rfl (.mv rfl rfl (.len hy rfl rfl rfl (.cmp (b := false) rfl rfl (by simp [cmpI]) rfl (.done (.thenN ?_)))))))))
  refine .condF rfl ?_
  refine .skip (.thenN ?_)
  refine .seq (.seq (.text (.as_ rfl rfl (.done (.thenN ?_)))))
  refine .block (?_)
  refine J.loop (fun k : Nat => k ≤ xs.length) (fun k => [(0, u), (1, v), (5, .int .i64 (k : Int))]) (fun _ => h) (fun _ => []) (fun k => xs.length - k) 0 (Nat.zero_le _) (.cons rfl (.cons rfl (.cons rfl (.nil _)))) rfl rfl ?_
  intro k hk0
  refine .seq (.seq (.text (.mv rfl rfl (.mv rfl rfl (.len hx rfl rfl rfl (.cmp rfl rfl rfl rfl (.done (.thenN ?_))))))))
  refine .cond rfl (fun hb4 => ?_) (fun hb4 => ?_)
  ·
    have hk : k < xs.length := by simp [cmpI] at hb4; omega
    refine .skip (.thenN ?_)
    refine .seq (.block (.seq (.draw [(0, .pure), (1, .pure), (2, .pure), (3, .read), (4, .pure), (5, .pure), (6, .pure), (7, .read), (8, .pure)] rfl (by kernel_rfl) (.mv rfl rfl (.mv rfl rfl (.ix (i := k) hx rfl rfl rfl hk rfl (.ldE hx hk rfl rfl rfl fun vs hvs => ?_)))))))
    obtain rfl := hvs
    refine .mv rfl rfl (.mv rfl rfl (.ix (i := k) hy rfl rfl rfl hk rfl (.ldE hy hk rfl rfl rfl fun vs hvs => ?_)))
    obtain rfl := hvs
    refine .eqA (b := true) rfl rfl (by simp [eqLs, eqK]) (.inr ⟨rfl, rfl⟩) rfl (.done (.thenN ?_))
    refine .condF rfl ?_
    refine .skip (.blkN (.thenN ?_))
    refine .text (.mv rfl rfl (.inc rfl rfl (by have := hx.len; unfold maxL at this; omega) rfl (.as_ rfl rfl (.done (.thenN ?_)))))
    exact J.again (k + 1) (by omega) hk (.cons rfl (.cons rfl (.cons rfl (.nil _)))) rfl rfl
  ·
    refine .exit (.thenE (.thenE (.blkHit (.thenN ?_))))
    refine .seq (.text (.as_ rfl rfl (.done (.thenN ?_))))
    refine .ret ?_
    exact J.retV rfl (by simp [resOne])

theorem sameS_walk {h : Hp} {u v : Value} {xs : List Svc} (hx : SlR h 7 RSvc u xs) (hy : SlR h 7 RSvc v xs) : FV Go.Proofs.Tryz.prog 37 [u, v] h (.bool true) := by
  refine FS.enter Go.Proofs.Tryz.func37 rfl rfl fun w0 => ?_
  refine .seq (.text (.as_ rfl rfl (.done (.thenN ?_))))
  refine .seq (.seq (.text (.mv rfl rfl (.len hx rfl rfl rfl (.mv rfl rfl (.len hy rfl rfl rfl (.cmp (b := false) rfl rfl (by simp [cmpI]) rfl (.done (.thenN ?_)))))))))
  refine .condF rfl ?_
  refine .skip (.thenN ?_)
  refine .seq (.seq (.text (.as_ rfl rfl (.done (.thenN ?_)))))
  refine .block (?_)
  refine J.loop (fun k : Nat => k ≤ xs.length) (fun k => [(0, u), (1, v), (5, .int .i64 (k : Int))]) (fun _ => h) (fun _ => []) (fun k => xs.length - k) 0 (Nat.zero_le _) (.cons rfl (.cons rfl (.cons rfl (.nil _)))) rfl rfl ?_
  intro k hk0
  refine .seq (.seq (.text (.mv rfl rfl (.mv rfl rfl (.len hx rfl rfl rfl (.cmp rfl rfl rfl rfl (.done (.thenN ?_))))))))
  refine .cond rfl (fun hb4 => ?_) (fun hb4 => ?_)
  ·
    have hk : k < xs.length := by simp [cmpI] at hb4; omega
    refine .skip (.thenN ?_)
    refine .seq (.block (?_))
    refine J.cut (ι := Nat × Nat × Value × Value) (fun i => SlR h 1 RS i.2.2.1 xs[k].tags ∧ SlR h 1 RS i.2.2.2 xs[k].tags) (fun i => [(0, u), (1, v), (5, .int .i64 (k : Int)), (6, .pointer (some ⟨i.1, 0, none⟩)), (7, .pointer (some ⟨i.2.1, 0, none⟩))]) (fun _ => h) (fun i => [one i.2.1 (.cells ⟨svcV xs[k] i.2.2.2⟩ 31 (0, 0)), one i.1 (.cells ⟨svcV xs[k] i.2.2.1⟩ 31 (0, 0))]) ?_ ?_
    ·
      refine .tree2 (.seq [(0, .pure), (1, .pure), (2, .pure), (3, .read), (4, .pure), (5, .pure), (6, .pure)] (.both (.seq [(7, .grow)] (.both (.seq [(8, .grow), (9, .grow), (10, .mut), (11, .mut)] .nil) (.seq [(9, .grow), (8, .grow), (10, .mut), (11, .mut)] .nil))) (.both (.seq [(8, .grow)] (.both (.seq [(7, .grow), (9, .grow), (10, .mut), (11, .mut)] .nil) (.seq [(9, .grow)] (.both (.seq [(7, .grow), (10, .mut), (11, .mut)] .nil) (.seq [(10, .mut), (7, .grow), (11, .mut)] .nil))))) (.seq [(9, .grow)] (.both (.seq [(7, .grow), (8, .grow), (10, .mut), (11, .mut)] .nil) (.seq [(8, .grow)] (.both (.seq [(7, .grow), (10, .mut), (11, .mut)] .nil) (.seq [(10, .mut), (7, .grow), (11, .mut)] .nil)))))))) [4090, 4089, 4080, 1011, 4015, 3999, 3855, 0, 0, 0, 0, 0] [0, 0, 3, 4, 0, 0, 48, 64, 0, 0, 783, 2047] [3084, 3084, 3080, 3072, 2240, 2240, 2176, 2048, 3072, 3072, 2048, 0] [.pure, .pure, .pure, .read, .pure, .pure, .pure, .grow, .grow, .grow, .mut, .mut] rfl (by kernel_rfl) (by kernel_rfl) ?_
      refine .tSeq (.mv rfl rfl (.mv rfl rfl (.ix (i := k) hx rfl rfl rfl hk rfl (.ldE hx hk rfl rfl rfl fun vs hvs => ?_))))
      obtain ⟨tv, rfl, htv⟩ := hvs
      obtain ⟨tA, tc, rfl⟩ := htv.form
      refine .mv rfl rfl (.mv rfl rfl (.ix (i := k) hy rfl rfl rfl hk rfl (.done (.thenN ?_))))
      refine .tBoth ?_ ?_
      ·
        refine .tSeq (.ldE hy hk rfl rfl rfl fun vs hvs => ?_)
        obtain ⟨tv', rfl, htv'⟩ := hvs
        obtain ⟨tA', tc', rfl⟩ := htv'.form
        refine .done (.thenN ?_)
        refine .tBoth ?_ ?_
        ·
          refine .tSeq (.alloc (cs := [_, _, _, _, _, _, _]) rfl rfl rfl fun b6 => .alloc (cs := [_, _, _, _, _, _, _]) rfl rfl rfl fun b7 => .stW rfl rfl rfl rfl rfl rfl (.stW rfl rfl rfl rfl rfl rfl (.done (.thenN ?_))))
          refine .tNil (.thenN ?_)
          first | exact J.mid (b6, b7, _, _) ⟨htv, htv'⟩ (.cons rfl (.cons rfl (.cons rfl (.cons rfl (.cons rfl (.nil _)))))) rfl rfl | exact J.front 1 rfl (J.mid (b6, b7, _, _) ⟨htv, htv'⟩ (.cons rfl (.cons rfl (.cons rfl (.cons rfl (.cons rfl (.nil _)))))) rfl rfl)
        refine .tSeq (.alloc (cs := [_, _, _, _, _, _, _]) rfl rfl rfl fun b7 => .alloc (cs := [_, _, _, _, _, _, _]) rfl rfl rfl fun b6 => .stW rfl rfl rfl rfl rfl rfl (.stW rfl rfl rfl rfl rfl rfl (.done (.thenN ?_))))
        refine .tNil (.thenN ?_)
        first | exact J.mid (b6, b7, _, _) ⟨htv, htv'⟩ (.cons rfl (.cons rfl (.cons rfl (.cons rfl (.cons rfl (.nil _)))))) rfl rfl | exact J.front 1 rfl (J.mid (b6, b7, _, _) ⟨htv, htv'⟩ (.cons rfl (.cons rfl (.cons rfl (.cons rfl (.cons rfl (.nil _)))))) rfl rfl)
      refine .tBoth ?_ ?_
      ·
        refine .tSeq (.alloc (cs := [_, _, _, _, _, _, _]) rfl rfl rfl fun b6 => .done (.thenN ?_))
        refine .tBoth ?_ ?_
        ·
          refine .tSeq (.ldE hy hk rfl rfl rfl fun vs hvs => ?_)
          obtain ⟨tv', rfl, htv'⟩ := hvs
          obtain ⟨tA', tc', rfl⟩ := htv'.form
          refine .alloc (cs := [_, _, _, _, _, _, _]) rfl rfl rfl fun b7 => .stW rfl rfl rfl rfl rfl rfl (.stW rfl rfl rfl rfl rfl rfl (.done (.thenN ?_)))
          refine .tNil (.thenN ?_)
          first | exact J.mid (b6, b7, _, _) ⟨htv, htv'⟩ (.cons rfl (.cons rfl (.cons rfl (.cons rfl (.cons rfl (.nil _)))))) rfl rfl | exact J.front 1 rfl (J.mid (b6, b7, _, _) ⟨htv, htv'⟩ (.cons rfl (.cons rfl (.cons rfl (.cons rfl (.cons rfl (.nil _)))))) rfl rfl)
        refine .tSeq (.alloc (cs := [_, _, _, _, _, _, _]) rfl rfl rfl fun b7 => .done (.thenN ?_))
        refine .tBoth ?_ ?_
        ·
          refine .tSeq (.ldE hy hk rfl rfl rfl fun vs hvs => ?_)
          obtain ⟨tv', rfl, htv'⟩ := hvs
          obtain ⟨tA', tc', rfl⟩ := htv'.form
          refine .stW rfl rfl rfl rfl rfl rfl (.stW rfl rfl rfl rfl rfl rfl (.done (.thenN ?_)))
          refine .tNil (.thenN ?_)
          first | exact J.mid (b6, b7, _, _) ⟨htv, htv'⟩ (.cons rfl (.cons rfl (.cons rfl (.cons rfl (.cons rfl (.nil _)))))) rfl rfl | exact J.front 1 rfl (J.mid (b6, b7, _, _) ⟨htv, htv'⟩ (.cons rfl (.cons rfl (.cons rfl (.cons rfl (.cons rfl (.nil _)))))) rfl rfl)
        refine .tSeq (.stW rfl rfl rfl rfl rfl rfl (.ldE hy hk rfl rfl rfl fun vs hvs => ?_))
        obtain ⟨tv', rfl, htv'⟩ := hvs
        obtain ⟨tA', tc', rfl⟩ := htv'.form
        refine .stW rfl rfl rfl rfl rfl rfl (.done (.thenN ?_))
        refine .tNil (.thenN ?_)
        first | exact J.mid (b6, b7, _, _) ⟨htv, htv'⟩ (.cons rfl (.cons rfl (.cons rfl (.cons rfl (.cons rfl (.nil _)))))) rfl rfl | exact J.front 1 rfl (J.mid (b6, b7, _, _) ⟨htv, htv'⟩ (.cons rfl (.cons rfl (.cons rfl (.cons rfl (.cons rfl (.nil _)))))) rfl rfl)
      refine .tSeq (.alloc (cs := [_, _, _, _, _, _, _]) rfl rfl rfl fun b7 => .done (.thenN ?_))
      refine .tBoth ?_ ?_
      ·
        refine .tSeq (.ldE hy hk rfl rfl rfl fun vs hvs => ?_)
        obtain ⟨tv', rfl, htv'⟩ := hvs
        obtain ⟨tA', tc', rfl⟩ := htv'.form
        refine .alloc (cs := [_, _, _, _, _, _, _]) rfl rfl rfl fun b6 => .stW rfl rfl rfl rfl rfl rfl (.stW rfl rfl rfl rfl rfl rfl (.done (.thenN ?_)))
        refine .tNil (.thenN ?_)
        first | exact J.mid (b6, b7, _, _) ⟨htv, htv'⟩ (.cons rfl (.cons rfl (.cons rfl (.cons rfl (.cons rfl (.nil _)))))) rfl rfl | exact J.front 1 rfl (J.mid (b6, b7, _, _) ⟨htv, htv'⟩ (.cons rfl (.cons rfl (.cons rfl (.cons rfl (.cons rfl (.nil _)))))) rfl rfl)
      refine .tSeq (.alloc (cs := [_, _, _, _, _, _, _]) rfl rfl rfl fun b6 => .done (.thenN ?_))
      refine .tBoth ?_ ?_
      ·
        refine .tSeq (.ldE hy hk rfl rfl rfl fun vs hvs => ?_)
        obtain ⟨tv', rfl, htv'⟩ := hvs
        obtain ⟨tA', tc', rfl⟩ := htv'.form
        refine .stW rfl rfl rfl rfl rfl rfl (.stW rfl rfl rfl rfl rfl rfl (.done (.thenN ?_)))
        refine .tNil (.thenN ?_)
        first | exact J.mid (b6, b7, _, _) ⟨htv, htv'⟩ (.cons rfl (.cons rfl (.cons rfl (.cons rfl (.cons rfl (.nil _)))))) rfl rfl | exact J.front 1 rfl (J.mid (b6, b7, _, _) ⟨htv, htv'⟩ (.cons rfl (.cons rfl (.cons rfl (.cons rfl (.cons rfl (.nil _)))))) rfl rfl)
      refine .tSeq (.stW rfl rfl rfl rfl rfl rfl (.ldE hy hk rfl rfl rfl fun vs hvs => ?_))
      obtain ⟨tv', rfl, htv'⟩ := hvs
      obtain ⟨tA', tc', rfl⟩ := htv'.form
      refine .stW rfl rfl rfl rfl rfl rfl (.done (.thenN ?_))
      refine .tNil (.thenN ?_)
      first | exact J.mid (b6, b7, _, _) ⟨htv, htv'⟩ (.cons rfl (.cons rfl (.cons rfl (.cons rfl (.cons rfl (.nil _)))))) rfl rfl | exact J.front 1 rfl (J.mid (b6, b7, _, _) ⟨htv, htv'⟩ (.cons rfl (.cons rfl (.cons rfl (.cons rfl (.cons rfl (.nil _)))))) rfl rfl)
    ·
      rintro ⟨b6, b7, tv, tv'⟩ ⟨htv, htv'⟩
      dsimp only [svcV] at htv htv' ⊢
      refine .seq (.text (.fa rfl rfl (.ld rfl rfl rfl rfl (.fa rfl rfl (.ld rfl rfl rfl rfl (.cmp (b := false) rfl rfl (by simp [cmpI]) rfl (.mv rfl rfl (.guard rfl rfl rfl rfl (.fa rfl rfl (.guard rfl rfl rfl rfl (.ld rfl rfl rfl rfl (.guard rfl rfl rfl rfl (.fa rfl rfl (.guard rfl rfl rfl rfl (.ld rfl rfl rfl rfl (.guard rfl rfl rfl rfl (.cmpS (b := false) rfl rfl (by simp [cmpS]) rfl (.pick rfl rfl rfl rfl (.mv rfl rfl (.guard rfl rfl rfl rfl (.fa rfl rfl (.guard rfl rfl rfl rfl (.ld rfl rfl rfl rfl (.guard rfl rfl rfl rfl (.fa rfl rfl (.guard rfl rfl rfl rfl (.ld rfl rfl rfl rfl (.guard rfl rfl rfl rfl (.cmpS (b := false) rfl rfl (by simp [cmpS]) rfl (.pick rfl rfl rfl rfl (.mv rfl rfl (.guard rfl rfl rfl rfl (.fa rfl rfl (.guard rfl rfl rfl rfl (.ld rfl rfl rfl rfl (.guard rfl rfl rfl rfl (.fa rfl rfl (.guard rfl rfl rfl rfl (.ld rfl rfl rfl rfl (.guard rfl rfl rfl rfl (?_)))))))))))))))))))))))))))))))))))))))))
      refine .callV rfl rfl (same01T_walk htv htv') rfl rfl (.guard rfl rfl rfl rfl (.not rfl rfl (.pick rfl rfl rfl rfl (.mv rfl rfl (.guard rfl rfl rfl rfl (.fa rfl rfl (.guard rfl rfl rfl rfl (.ld rfl rfl rfl rfl (.guard rfl rfl rfl rfl (.fa rfl rfl (.guard rfl rfl rfl rfl (.ld rfl rfl rfl rfl (.guard rfl rfl rfl rfl (.cmp (b := false) rfl rfl (by simp [cmpI]) rfl (.pick rfl rfl rfl rfl (.mv rfl rfl (.guard rfl rfl rfl rfl (.fa rfl rfl (.guard rfl rfl rfl rfl (.ld rfl rfl rfl rfl (.guard rfl rfl rfl rfl (.fa rfl rfl (.guard rfl rfl rfl rfl (.ld rfl rfl rfl rfl (.guard rfl rfl rfl rfl (.cmp (b := false) rfl rfl (by simp [cmpI]) rfl (.pick rfl rfl rfl rfl (.mv rfl rfl (.guard rfl rfl rfl rfl (.fa rfl rfl (.guard rfl rfl rfl rfl (.ld rfl rfl rfl rfl (.guard rfl rfl rfl rfl (.fa rfl rfl (.guard rfl rfl rfl rfl (.ld rfl rfl rfl rfl (.guard rfl rfl rfl rfl (.cmp (b := false) rfl rfl (by simp [cmpI]) rfl (.pick rfl rfl rfl rfl (.done (.thenN ?_)))))))))))))))))))))))))))))))))))))))))
      refine .condF rfl ?_
      refine .skip (.blkN (.thenN ?_))
      refine .text (.mv rfl rfl (.inc rfl rfl (by have := hx.len; unfold maxL at this; omega) rfl (.as_ rfl rfl (.done (.thenN ?_)))))
      exact J.dropF 2 (J.again (k + 1) (by omega) hk (.cons rfl (.cons rfl (.cons rfl (.nil _)))) rfl rfl)
  ·
    refine .exit (.thenE (.thenE (.blkHit (.thenN ?_))))
    refine .seq (.text (.as_ rfl rfl (.done (.thenN ?_))))
    refine .ret ?_
    exact J.retV rfl (by simp [resOne])

theorem same_walk {h m mw : Hp} {rp wb : Nat} {R : Rst} (hR : Ro m h rp R) (hwf : RWf R) (hW : Rb mw h wb (tellR R)) : FR Go.Proofs.Tryz.prog 10 [.pointer (some ⟨rp, 0, none⟩), .pointer (some ⟨wb, 0, none⟩)] h [m, mw] (.bool true) := by
  refine FS.enter Go.Proofs.Tryz.func10 rfl rfl fun w0 => ?_
  obtain ⟨t0, t1, t2, m0, m1, m2, hb, rfl, d0, d1, T0, T1, T2⟩ := hR
  obtain ⟨rv0, mr0, rfl, dd0, hr0⟩ := T0
  obtain ⟨rv1, mr1, rfl, dd1, hr1⟩ := T1
  obtain ⟨rv2, mr2, rfl, dd2, hr2⟩ := T2
  obtain ⟨nv, sv, cv, rfl, hn, hs, hc⟩ := hW
  haveI : ∀ L, At h L rp (.cells ⟨rosV t0 t1 t2⟩ 66 (0, 0)) := fun L => At.ofH hb
  unfold rfV
  refine J.open6 d0 d1 dd0 dd1 dd2 ?_
  refine .seq (.text (.as_ rfl rfl (.done (.thenN ?_))))
  refine .seq (.draw [(0, .pure), (2, .pure), (3, .pure), (4, .pure), (5, .read), (1, .grow), (6, .grow), (7, .pure), (8, .pure), (10, .pure), (11, .pure), (12, .pure), (13, .read), (9, .grow), (14, .grow), (15, .pure), (16, .pure), (17, .pure), (19, .pure), (20, .pure), (21, .pure), (22, .read), (18, .grow), (23, .grow), (24, .pure), (25, .pure), (26, .pure), (28, .pure), (29, .pure), (30, .pure), (31, .read), (27, .grow), (32, .pure), (33, .pure), (34, .pure)] rfl (by kernel_rfl) (.mv rfl rfl (.mv rfl rfl (.nilOk rfl rfl (.fa rfl rfl (.ld rfl rfl rfl rfl (?_)))))))
  refine .callG rfl rfl (nodes_walk hr0 hwf.ne) rfl rfl fun u6 h6 hl6 hu6 => ?_
  have hb := hl6 _ _ hb
  haveI : ∀ L, At h6 L rp (.cells ⟨rosV t0 t1 t2⟩ 66 (0, 0)) := fun L => At.ofH hb
  have hr0 := hr0.mono (RRow.mono RNod.mono) hl6
  have hr1 := hr1.mono (RRow.mono RSvc.mono) hl6
  have hr2 := hr2.mono (RRow.mono RChk.mono) hl6
  have hn := hn.mono RNod.mono hl6
  have hs := hs.mono RSvc.mono hl6
  have hc := hc.mono RChk.mono hl6
  refine ?_
  refine .callV rfl rfl (sameN_walk hu6 hn) rfl rfl (.mv rfl rfl (.guard rfl rfl rfl rfl (.mv rfl rfl (.guard rfl rfl rfl rfl (.mv rfl rfl (.guard rfl rfl rfl rfl (.nilOk rfl rfl (.guard rfl rfl rfl rfl (.fa rfl rfl (.guard rfl rfl rfl rfl (.ld rfl rfl rfl rfl (.guard rfl rfl rfl rfl (?_)))))))))))))
  refine .callG rfl rfl (services_walk hr1 hwf.ne) rfl rfl fun u14 h14 hl14 hu14 => ?_
  have hb := hl14 _ _ hb
  haveI : ∀ L, At h14 L rp (.cells ⟨rosV t0 t1 t2⟩ 66 (0, 0)) := fun L => At.ofH hb
  have hr0 := hr0.mono (RRow.mono RNod.mono) hl14
  have hr1 := hr1.mono (RRow.mono RSvc.mono) hl14
  have hr2 := hr2.mono (RRow.mono RChk.mono) hl14
  have hn := hn.mono RNod.mono hl14
  have hs := hs.mono RSvc.mono hl14
  have hc := hc.mono RChk.mono hl14
  refine .guard rfl rfl rfl rfl (?_)
  refine .callV rfl rfl (sameS_walk hu14 hs) rfl rfl (.pick rfl rfl rfl rfl (.mv rfl rfl (.guard rfl rfl rfl rfl (.mv rfl rfl (.guard rfl rfl rfl rfl (.mv rfl rfl (.guard rfl rfl rfl rfl (.nilOk rfl rfl (.guard rfl rfl rfl rfl (.fa rfl rfl (.guard rfl rfl rfl rfl (.ld rfl rfl rfl rfl (.guard rfl rfl rfl rfl (?_))))))))))))))
  refine .callG rfl rfl (checks_walk hr2 hwf.ne) rfl rfl fun u23 h23 hl23 hu23 => ?_
  have hb := hl23 _ _ hb
  haveI : ∀ L, At h23 L rp (.cells ⟨rosV t0 t1 t2⟩ 66 (0, 0)) := fun L => At.ofH hb
  have hr0 := hr0.mono (RRow.mono RNod.mono) hl23
  have hr1 := hr1.mono (RRow.mono RSvc.mono) hl23
  have hr2 := hr2.mono (RRow.mono RChk.mono) hl23
  have hn := hn.mono RNod.mono hl23
  have hs := hs.mono RSvc.mono hl23
  have hc := hc.mono RChk.mono hl23
  refine .guard rfl rfl rfl rfl (?_)
  refine .callV rfl rfl (sameC_walk hu23 hc) rfl rfl (.pick rfl rfl rfl rfl (.mv rfl rfl (.guard rfl rfl rfl rfl (.mv rfl rfl (.guard rfl rfl rfl rfl (.mv rfl rfl (.guard rfl rfl rfl rfl (.nilOk rfl rfl (.guard rfl rfl rfl rfl (.fa rfl rfl (.guard rfl rfl rfl rfl (.ldA [.int .u64 (tellR R).l0, .int .u64 (tellR R).l1, .int .u64 (tellR R).l2] rfl rfl rfl rfl rfl (.guard rfl rfl rfl rfl (?_))))))))))))))
  refine .callR rfl rfl (rlast_walk hwf.ne hwf.ne hwf.ne) rfl rfl (.guard rfl rfl rfl rfl (.eqA (b := true) rfl rfl (by simp [eqLs, eqK, tellR]) (.inl ⟨rfl, rfl⟩) rfl (.pick rfl rfl rfl rfl (.as_ rfl rfl (.done (.thenN ?_))))))
  refine .ret ?_
  refine J.shut6 fun _ _ _ _ _ => ?_
  exact J.retR rfl rfl (List.Sublist.refl _)


theorem FR.val {P : Program} {f : FuncId} {vs : List Value} {h : Hp} {L : List Hp} {q : IntKind} {a b : Int} (e : a = b) (s : FR P f vs h L (.int q a)) : FR P f vs h L (.int q b) := by subst e; exact s
def wkR0 : Rst := rst0 (min (max 9 1) 64)
def wkN : ByteArray := ⟨#[120]⟩
def wkS : Svc := ⟨1, ⟨#[119, 101, 98, 45, 49]⟩, ⟨#[119, 101, 98]⟩, [], 0, 0, 0⟩
def wkC : Chk := ⟨1, ⟨#[99]⟩, ⟨#[119, 101, 98, 45, 49]⟩, ⟨#[]⟩, 2, 0, 0⟩
def wkR1 : Rst := nodeR wkR0 1 wkN 3
def wkR2 : Rst := svcR wkR1 wkS 4
def wkR3 : Rst := chkR wkR2 wkC 5
def wkW1 : Rrf := ⟨9, [⟨1, wkN, 3, 3⟩], [], [], 3, 0, 0⟩
def wkW2 : Rrf := ⟨9, [⟨1, wkN, 3, 3⟩], [{ wkS with made := 4, ix := 4 }], [], 3, 4, 0⟩
theorem wk0 : RKey wkR0 ∧ RWf wkR0 := ⟨rst0_key _, rst0_wf (by decide) (by decide)⟩
theorem wk1 : RKey wkR1 ∧ RWf wkR1 := ⟨nodeR_key wk0.1, nodeR_wf wk0.2⟩
theorem wk2 : RKey wkR2 ∧ RWf wkR2 := ⟨svcR_key wk1.1, svcR_wf wk1.2⟩
theorem wk3 : RKey wkR3 ∧ RWf wkR3 := ⟨chkR_key wk2.1, chkR_wf wk2.2⟩
theorem wkE1 : nodeE wkR0 1 wkN = 0 := by rw [← nodeE_tell wk0.1 wk0.2]; decide
theorem wkT1 : tellR wkR1 = wkW1 := by rw [wkR1, ← nodeR_tell wk0.1 wk0.2]; rfl
theorem wkE2 : svcE wkR1 wkS = 0 := by rw [← svcE_tell wk1.1 wk1.2, wkT1]; decide
theorem wkT2 : tellR wkR2 = wkW2 := by rw [wkR2, ← svcR_tell wk1.1 wk1.2, wkT1]; rfl
theorem wkE3 : chkE wkR2 wkC = 0 := by rw [← chkE_tell wk2.1 wk2.2, wkT2]; decide
theorem wkT3 : wkR3.c.map toldC = [{ wkC with made := 5, ix := 5 }] := by
  show (tellR wkR3).checks = _
  rw [wkR3, ← chkR_tell wk2.1 wk2.2, wkT2]; rfl
theorem wkH1 : healthB (wkR3.c.map toldC) 1 ⟨#[119, 101, 98, 45, 49]⟩ = 2 := by rw [wkT3]; decide
theorem wkH2 : healthB (wkR3.c.map toldC) 1 ⟨#[100, 98]⟩ = 0 := by rw [wkT3]; decide

theorem rworks_walk {h : Hp} : FH Go.Proofs.Tryz.prog 13 [] h (fun r h' => r = .bool true) := by
  refine FS.enter Go.Proofs.Tryz.func13 rfl rfl fun w0 => ?_
  refine .seq (.text (.as_ rfl rfl (.done (.thenN ?_))))
  refine .seq (.text (.call0 rfl rfl rnew_walk rfl rfl fun u5 h5 ms5 hl5 hu5 => ?_))
  obtain ⟨_, rp, m, rfl, rfl, hR⟩ := hu5
  simp only [List.singleton_append]
  refine .as_ rfl rfl (.done (.thenN ?_))
  refine .seq (.text (.mv rfl rfl (?_)))
  refine .callM rfl rfl (node_walk (n := 1) (addr := wkN) (ix := 3) hR wk0.2) rfl rfl fun u7 h7 m7 hl7 hu7 => ?_
  obtain ⟨rfl, e7, hR⟩ := hu7
  replace e7 := e7.trans (congrArg (Value.int .i64) wkE1)
  subst e7
  refine .as_ rfl rfl (.done (.thenN ?_))
  refine .seq (.text (.mv rfl rfl (.bld (svcV wkS (.slice none 0 0)) rfl rfl rfl ?_)))
  refine ?_
  refine .callM rfl rfl (service_walk (s := wkS) (ix := 4) hR wk1.2 (SlR.nil _ _ _) ⟨by decide, by decide, fun _ h => by cases h⟩) rfl rfl fun u10 h10 m10 hl10 hu10 => ?_
  obtain ⟨e10, hR⟩ := hu10
  replace e10 := e10.trans (congrArg (Value.int .i64) wkE2)
  subst e10
  refine .as_ rfl rfl (.done (.thenN ?_))
  refine .seq (.text (.mv rfl rfl (.bld (chkV wkC) rfl rfl rfl ?_)))
  refine ?_
  refine .callM rfl rfl (check_walk (c := wkC) (ix := 5) hR wk2.2 ⟨by decide, by decide⟩) rfl rfl fun u13 h13 m13 hl13 hu13 => ?_
  obtain ⟨rfl, e13, hR⟩ := hu13
  replace e13 := e13.trans (congrArg (Value.int .i64) wkE3)
  subst e13
  refine .as_ rfl rfl (.done (.thenN ?_))
  refine .seq (?_)
  obtain ⟨t0, t1, t2, m0, m1, m2, hb, rfl, d0, d1, T0, T1, T2⟩ := hR
  obtain ⟨rv0, mr0, rfl, dd0, hr0⟩ := T0
  obtain ⟨rv1, mr1, rfl, dd1, hr1⟩ := T1
  obtain ⟨rv2, mr2, rfl, dd2, hr2⟩ := T2
  haveI : ∀ L, At h13 L rp (.cells ⟨rosV t0 t1 t2⟩ 66 (0, 0)) := fun L => At.ofH hb
  refine J.open6 d0 d1 dd0 dd1 dd2 ?_
  refine .text (.mv rfl rfl (.cmp (b := true) rfl rfl rfl rfl (.mv rfl rfl (.guard rfl rfl rfl rfl (.mv rfl rfl (.guard rfl rfl rfl rfl (.cmp (b := true) rfl rfl rfl rfl (.pick rfl rfl rfl rfl (.mv rfl rfl (.guard rfl rfl rfl rfl (.mv rfl rfl (.guard rfl rfl rfl rfl (.cmp (b := true) rfl rfl rfl rfl (.pick rfl rfl rfl rfl (.mv rfl rfl (.guard rfl rfl rfl rfl (.mv rfl rfl (.guard rfl rfl rfl rfl (?_)))))))))))))))))))
  refine .callR (V := .int .i64 2) rfl rfl (FR.val wkH1 (health_walk (n := 1) (svc := ⟨#[119, 101, 98, 45, 49]⟩) hr1 wk3.2.ne hr2 wk3.2.ne)) rfl rfl (.guard rfl rfl rfl rfl (.cmp (b := true) rfl rfl rfl rfl (.pick rfl rfl rfl rfl (.mv rfl rfl (.guard rfl rfl rfl rfl (.mv rfl rfl (.guard rfl rfl rfl rfl (?_))))))))
  refine .callR (V := .int .i64 0) rfl rfl (FR.val wkH2 (health_walk (n := 1) (svc := ⟨#[100, 98]⟩) hr1 wk3.2.ne hr2 wk3.2.ne)) rfl rfl (.guard rfl rfl rfl rfl (.cmp (b := true) rfl rfl rfl rfl (.pick rfl rfl rfl rfl (.as_ rfl rfl (.done (.thenN ?_))))))
  refine .ret ?_
  exact J.retH rfl rfl
end Go.Sod
