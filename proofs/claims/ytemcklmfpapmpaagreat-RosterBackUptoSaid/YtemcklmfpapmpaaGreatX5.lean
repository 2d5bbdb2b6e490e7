/-
  Whether two rosters are the same, walked. Conditions: none.
-/
import Derived.Test.YtemcklmfpapmpaaGreatX4
import Derived.Test.YtemcklmfpapmpaaGreatL4
namespace Go.Sod
set_option linter.unusedVariables false
set_option linter.unusedSimpArgs false
set_option maxRecDepth 10000
set_option maxHeartbeats 4000000

theorem Nod.ext_iff' {a b : Nod} : a = b ↔ a.node = b.node ∧ a.addr = b.addr ∧ a.made = b.made ∧ a.ix = b.ix := by
  cases a; cases b; simp
theorem Svc.ext_iff' {a b : Svc} : a = b ↔ a.node = b.node ∧ a.id = b.id ∧ a.name = b.name ∧ a.tags = b.tags ∧ a.port = b.port ∧ a.made = b.made ∧ a.ix = b.ix := by
  cases a; cases b; simp
theorem Chk.ext_iff' {a b : Chk} : a = b ↔ a.node = b.node ∧ a.id = b.id ∧ a.service = b.service ∧ a.note = b.note ∧ a.status = b.status ∧ a.made = b.made ∧ a.ix = b.ix := by
  cases a; cases b; simp
instance : DecidableEq Nod := fun _ _ => decidable_of_iff _ Nod.ext_iff'.symm
instance : DecidableEq Svc := fun _ _ => decidable_of_iff _ Svc.ext_iff'.symm
instance : DecidableEq Chk := fun _ _ => decidable_of_iff _ Chk.ext_iff'.symm
theorem dec_iff {p : Prop} [Decidable p] {b : Bool} (h : p ↔ b = true) : decide p = b := by
  cases b <;> simp_all
theorem eqNod (x y : Nod) : eqLs [0, 1, 0, 0] (nodV x) (nodV y) = some (decide (x = y)) := by
  simp only [eqLs, eqK, nodV, if_true, Option.some.injEq, Bool.and_true]
  refine (dec_iff ?_).symm
  rw [Nod.ext_iff']; simp
theorem eqChk (x y : Chk) : eqLs [0, 1, 1, 1, 0, 0, 0] (chkV x) (chkV y) = some (decide (x = y)) := by
  simp only [eqLs, eqK, chkV, if_true, Option.some.injEq, Bool.and_true]
  refine (dec_iff ?_).symm
  rw [Chk.ext_iff']; simp
section
variable {α : Type} [DecidableEq α] {xs ys : List α}
theorem sameF0 (h : ¬ ((xs.length : Int) = (ys.length : Int))) : decide (xs = ys) = false := decide_eq_false fun e => h (by rw [e])
theorem sameFk {k : Nat} (hx : k < xs.length) (hy : k < ys.length) (h : ¬ xs[k] = ys[k]) : decide (xs = ys) = false := decide_eq_false fun e => h (by subst e; rfl)
omit [DecidableEq α] in
theorem sameK {k : Nat} (hx : k < xs.length) (hy : k < ys.length) (h0 : xs.take k = ys.take k) (h : xs[k] = ys[k]) : xs.take (k + 1) = ys.take (k + 1) := by
  rw [List.take_add_one, List.take_add_one, List.getElem?_eq_getElem hx, List.getElem?_eq_getElem hy, h0, h]
theorem sameT (hl : xs.length = ys.length) (h : xs.take xs.length = ys.take xs.length) : decide (xs = ys) = true := decide_eq_true (by rw [List.take_length] at h; rw [hl, List.take_length] at h; exact h)
end
/-- what differs -/
theorem neS {a b : Svc} : ((((((!decide (a.node = b.node) || !decide (a.id = b.id)) || !decide (a.name = b.name)) || !decide (a.tags = b.tags)) || !decide (a.port = b.port)) || !decide (a.made = b.made)) || !decide (a.ix = b.ix)) = !decide (a = b) := by
  rw [dec_iff (p := a = b) (b := (decide (a.node = b.node) && decide (a.id = b.id) && decide (a.name = b.name) && decide (a.tags = b.tags) && decide (a.port = b.port) && decide (a.made = b.made) && decide (a.ix = b.ix))) (by rw [Svc.ext_iff']; simp [and_assoc])]
  simp
def rosSame (R : Rst) (W : Rrf) : Bool := ((decide (R.n.map toldN = W.nodes) && decide (R.s.map toldS = W.services)) && decide (R.c.map toldC = W.checks)) && (decide (R.l0 = W.l0) && (decide (R.l1 = W.l1) && decide (R.l2 = W.l2)))
theorem rosSame_tell (R : Rst) : rosSame R (tellR R) = true := by simp [rosSame, tellR]
theorem eqLast {a b c x y z : Int} : eqLs [0, 0, 0] [.int .u64 a, .int .u64 b, .int .u64 c] [.int .u64 x, .int .u64 y, .int .u64 z] = some (decide (a = x) && (decide (b = y) && decide (c = z))) := by
  simp [eqLs, eqK]

theorem same01G_walk {h : Hp} {u v : Value} {xs ys : List ByteArray} (hx : SlR h 1 RS u xs) (hy : SlR h 1 RS v ys) : FV Go.Proofs.Tryz.prog 82 [u, v] h (.bool (decide (xs = ys))) := by
  refine FS.enter Go.Proofs.Tryz.func82 rfl rfl fun w0 => ?_
  refine .seq (.text (.as_ rfl rfl (.done (.thenN ?_))))
  refine .seq (.seq (.text (.mv rfl rfl (.len hx rfl rfl rfl (.mv rfl rfl (.len hy rfl rfl rfl (.cmp rfl rfl rfl rfl (.done (.thenN ?_)))))))))
  refine .cond rfl (fun hb1 => ?_) (fun hb1 => ?_)
  ·
    refine .seq (.text (.as_ rfl rfl (.done (.thenN ?_))))
    refine .ret (.thenR ?_)
    exact J.retV rfl (by rw [sameF0 (by simpa using hb1)]; rfl)
  ·
    refine .skip (.thenN ?_)
    refine .seq (.seq (.text (.as_ rfl rfl (.done (.thenN ?_)))))
    refine .block (?_)
    have hle : xs.length = ys.length := by simp at hb1; omega
    refine J.loop (fun k : Nat => k ≤ xs.length ∧ xs.take k = ys.take k) (fun k => [(0, u), (1, v), (5, .int .i64 (k : Int))]) (fun _ => h) (fun _ => []) (fun k => xs.length - k) 0 ⟨Nat.zero_le _, rfl⟩ (.cons rfl (.cons rfl (.cons rfl (.nil _)))) rfl rfl ?_
    rintro k ⟨hk0, hk1⟩
    refine .seq (.seq (.text (.mv rfl rfl (.mv rfl rfl (.len hx rfl rfl rfl (.cmp rfl rfl rfl rfl (.done (.thenN ?_))))))))
    refine .cond rfl (fun hb4 => ?_) (fun hb4 => ?_)
    ·
      have hk : k < xs.length := by simp [cmpI] at hb4; omega
      have hk' : k < ys.length := by omega
      refine .skip (.thenN ?_)
      refine .seq (.block (.seq (.draw [(0, .pure), (1, .pure), (2, .pure), (3, .read), (4, .pure), (5, .pure), (6, .pure), (7, .read), (8, .pure)] rfl (by kernel_rfl) (.mv rfl rfl (.mv rfl rfl (.ix (i := k) hx rfl rfl rfl hk rfl (.ldG (sz := 1) (off := 0) (.string xs[k]) hx hk (by rfl) (fun vs e => by obtain rfl := e; rfl) rfl rfl (.mv rfl rfl (.mv rfl rfl (.ix (i := k) hy rfl rfl rfl hk' rfl (.ldG (sz := 1) (off := 0) (.string ys[k]) hy hk' (by rfl) (fun vs e => by obtain rfl := e; rfl) rfl rfl (.cmpS rfl rfl rfl rfl (.done (.thenN ?_))))))))))))))
      refine .cond rfl (fun hb6 => ?_) (fun hb6 => ?_)
      ·
        refine .seq (.text (.as_ rfl rfl (.done (.thenN ?_))))
        refine .ret (.blkR (.thenR (.thenR (.blkR (.thenR ?_)))))
        exact J.retV rfl (by rw [sameFk hk hk' (by simpa using hb6)]; rfl)
      ·
        refine .skip (.blkN (.thenN ?_))
        refine .text (.mv rfl rfl (.inc rfl rfl (by have := hx.len; unfold maxL at this; omega) rfl (.as_ rfl rfl (.done (.thenN ?_)))))
        have heq : xs[k] = ys[k] := by simpa using hb6
        exact J.again (k + 1) (by omega) ⟨hk, sameK hk hk' hk1 heq⟩ (.cons rfl (.cons rfl (.cons rfl (.nil _)))) rfl rfl
    ·
      have hk : k = xs.length := by simp [cmpI] at hb4; omega
      subst hk
      refine .exit (.thenE (.thenE (.blkHit (.thenN ?_))))
      refine .seq (.text (.as_ rfl rfl (.done (.thenN ?_))))
      refine .ret ?_
      exact J.retV rfl (by rw [sameT hle hk1]; rfl)

theorem sameNG_walk {h : Hp} {u v : Value} {xs ys : List Nod} (hx : SlR h 4 RNod u xs) (hy : SlR h 4 RNod v ys) : FV Go.Proofs.Tryz.prog 36 [u, v] h (.bool (decide (xs = ys))) := by
  refine FS.enter Go.Proofs.Tryz.func36 rfl rfl fun w0 => ?_
  refine .seq (.text (.as_ rfl rfl (.done (.thenN ?_))))
  refine .seq (.seq (.text (.mv rfl rfl (.len hx rfl rfl rfl (.mv rfl rfl (.len hy rfl rfl rfl (.cmp rfl rfl rfl rfl (.done (.thenN ?_)))))))))
  refine .cond rfl (fun hb1 => ?_) (fun hb1 => ?_)
  ·
    refine .seq (.text (.as_ rfl rfl (.done (.thenN ?_))))
    refine .ret (.thenR ?_)
    exact J.retV rfl (by rw [sameF0 (by simpa using hb1)]; rfl)
  ·
    refine .skip (.thenN ?_)
    refine .seq (.seq (.text (.as_ rfl rfl (.done (.thenN ?_)))))
    refine .block (?_)
    have hle : xs.length = ys.length := by simp at hb1; omega
    refine J.loop (fun k : Nat => k ≤ xs.length ∧ xs.take k = ys.take k) (fun k => [(0, u), (1, v), (5, .int .i64 (k : Int))]) (fun _ => h) (fun _ => []) (fun k => xs.length - k) 0 ⟨Nat.zero_le _, rfl⟩ (.cons rfl (.cons rfl (.cons rfl (.nil _)))) rfl rfl ?_
    rintro k ⟨hk0, hk1⟩
    refine .seq (.seq (.text (.mv rfl rfl (.mv rfl rfl (.len hx rfl rfl rfl (.cmp rfl rfl rfl rfl (.done (.thenN ?_))))))))
    refine .cond rfl (fun hb4 => ?_) (fun hb4 => ?_)
    ·
      have hk : k < xs.length := by simp [cmpI] at hb4; omega
      have hk' : k < ys.length := by omega
      refine .skip (.thenN ?_)
      refine .seq (.block (.seq (.draw [(0, .pure), (1, .pure), (2, .pure), (3, .read), (4, .pure), (5, .pure), (6, .pure), (7, .read), (8, .pure)] rfl (by kernel_rfl) (.mv rfl rfl (.mv rfl rfl (.ix (i := k) hx rfl rfl rfl hk rfl (.ldE hx hk rfl rfl rfl fun vs hvs => ?_)))))))
      obtain rfl := hvs
      refine .mv rfl rfl (.mv rfl rfl (.ix (i := k) hy rfl rfl rfl hk' rfl (.ldE hy hk' rfl rfl rfl fun vs hvs => ?_)))
      obtain rfl := hvs
      refine .eqA (b := decide (xs[k] = ys[k])) rfl rfl (eqNod _ _) (.inr ⟨rfl, rfl⟩) rfl (.done (.thenN ?_))
      refine .cond rfl (fun hb6 => ?_) (fun hb6 => ?_)
      ·
        refine .seq (.text (.as_ rfl rfl (.done (.thenN ?_))))
        refine .ret (.blkR (.thenR (.thenR (.blkR (.thenR ?_)))))
        exact J.retV rfl (by rw [sameFk hk hk' (by simpa using hb6)]; rfl)
      ·
        refine .skip (.blkN (.thenN ?_))
        refine .text (.mv rfl rfl (.inc rfl rfl (by have := hx.len; unfold maxL at this; omega) rfl (.as_ rfl rfl (.done (.thenN ?_)))))
        have heq : xs[k] = ys[k] := by simpa using hb6
        exact J.again (k + 1) (by omega) ⟨hk, sameK hk hk' hk1 heq⟩ (.cons rfl (.cons rfl (.cons rfl (.nil _)))) rfl rfl
    ·
      have hk : k = xs.length := by simp [cmpI] at hb4; omega
      subst hk
      refine .exit (.thenE (.thenE (.blkHit (.thenN ?_))))
      refine .seq (.text (.as_ rfl rfl (.done (.thenN ?_))))
      refine .ret ?_
      exact J.retV rfl (by rw [sameT hle hk1]; rfl)

theorem sameCG_walk {h : Hp} {u v : Value} {xs ys : List Chk} (hx : SlR h 7 RChk u xs) (hy : SlR h 7 RChk v ys) : FV Go.Proofs.Tryz.prog 38 [u, v] h (.bool (decide (xs = ys))) := by
  refine FS.enter Go.Proofs.Tryz.func38 rfl rfl fun w0 => ?_
  refine .seq (.text (.as_ rfl rfl (.done (.thenN ?_))))
  refine .seq (.seq (.text (.mv rfl rfl (.len hx rfl rfl rfl (.mv rfl rfl (.len hy rfl rfl rfl (.cmp rfl rfl rfl rfl (.done (.thenN ?_)))))))))
  refine .cond rfl (fun hb1 => ?_) (fun hb1 => ?_)
  ·
    refine .seq (.text (.as_ rfl rfl (.done (.thenN ?_))))
    refine .ret (.thenR ?_)
    exact J.retV rfl (by rw [sameF0 (by simpa using hb1)]; rfl)
  ·
    refine .skip (.thenN ?_)
    refine .seq (.seq (.text (.as_ rfl rfl (.done (.thenN ?_)))))
    refine .block (?_)
    have hle : xs.length = ys.length := by simp at hb1; omega
    refine J.loop (fun k : Nat => k ≤ xs.length ∧ xs.take k = ys.take k) (fun k => [(0, u), (1, v), (5, .int .i64 (k : Int))]) (fun _ => h) (fun _ => []) (fun k => xs.length - k) 0 ⟨Nat.zero_le _, rfl⟩ (.cons rfl (.cons rfl (.cons rfl (.nil _)))) rfl rfl ?_
    rintro k ⟨hk0, hk1⟩
    refine .seq (.seq (.text (.mv rfl rfl (.mv rfl rfl (.len hx rfl rfl rfl (.cmp rfl rfl rfl rfl (.done (.thenN ?_))))))))
    refine .cond rfl (fun hb4 => ?_) (fun hb4 => ?_)
    ·
      have hk : k < xs.length := by simp [cmpI] at hb4; omega
      have hk' : k < ys.length := by omega
      refine .skip (.thenN ?_)
      refine .seq (.block (.seq (.draw [(0, .pure), (1, .pure), (2, .pure), (3, .read), (4, .pure), (5, .pure), (6, .pure), (7, .read), (8, .pure)] rfl (by kernel_rfl) (.mv rfl rfl (.mv rfl rfl (.ix (i := k) hx rfl rfl rfl hk rfl (.ldE hx hk rfl rfl rfl fun vs hvs => ?_)))))))
      obtain rfl := hvs
      refine .mv rfl rfl (.mv rfl rfl (.ix (i := k) hy rfl rfl rfl hk' rfl (.ldE hy hk' rfl rfl rfl fun vs hvs => ?_)))
      obtain rfl := hvs
      refine .eqA (b := decide (xs[k] = ys[k])) rfl rfl (eqChk _ _) (.inr ⟨rfl, rfl⟩) rfl (.done (.thenN ?_))
      refine .cond rfl (fun hb6 => ?_) (fun hb6 => ?_)
      ·
        refine .seq (.text (.as_ rfl rfl (.done (.thenN ?_))))
        refine .ret (.blkR (.thenR (.thenR (.blkR (.thenR ?_)))))
        exact J.retV rfl (by rw [sameFk hk hk' (by simpa using hb6)]; rfl)
      ·
        refine .skip (.blkN (.thenN ?_))
        refine .text (.mv rfl rfl (.inc rfl rfl (by have := hx.len; unfold maxL at this; omega) rfl (.as_ rfl rfl (.done (.thenN ?_)))))
        have heq : xs[k] = ys[k] := by simpa using hb6
        exact J.again (k + 1) (by omega) ⟨hk, sameK hk hk' hk1 heq⟩ (.cons rfl (.cons rfl (.cons rfl (.nil _)))) rfl rfl
    ·
      have hk : k = xs.length := by simp [cmpI] at hb4; omega
      subst hk
      refine .exit (.thenE (.thenE (.blkHit (.thenN ?_))))
      refine .seq (.text (.as_ rfl rfl (.done (.thenN ?_))))
      refine .ret ?_
      exact J.retV rfl (by rw [sameT hle hk1]; rfl)

theorem sameSG_walk {h : Hp} {u v : Value} {xs ys : List Svc} (hx : SlR h 7 RSvc u xs) (hy : SlR h 7 RSvc v ys) : FV Go.Proofs.Tryz.prog 37 [u, v] h (.bool (decide (xs = ys))) := by
  refine FS.enter Go.Proofs.Tryz.func37 rfl rfl fun w0 => ?_
  refine .seq (.text (.as_ rfl rfl (.done (.thenN ?_))))
  refine .seq (.seq (.text (.mv rfl rfl (.len hx rfl rfl rfl (.mv rfl rfl (.len hy rfl rfl rfl (.cmp rfl rfl rfl rfl (.done (.thenN ?_)))))))))
  refine .cond rfl (fun hb1 => ?_) (fun hb1 => ?_)
  ·
    refine .seq (.text (.as_ rfl rfl (.done (.thenN ?_))))
    refine .ret (.thenR ?_)
    exact J.retV rfl (by rw [sameF0 (by simpa using hb1)]; rfl)
  ·
    refine .skip (.thenN ?_)
    refine .seq (.seq (.text (.as_ rfl rfl (.done (.thenN ?_)))))
    refine .block (?_)
    have hle : xs.length = ys.length := by simp at hb1; omega
    refine J.loop (fun k : Nat => k ≤ xs.length ∧ xs.take k = ys.take k) (fun k => [(0, u), (1, v), (5, .int .i64 (k : Int))]) (fun _ => h) (fun _ => []) (fun k => xs.length - k) 0 ⟨Nat.zero_le _, rfl⟩ (.cons rfl (.cons rfl (.cons rfl (.nil _)))) rfl rfl ?_
    rintro k ⟨hk0, hk1⟩
    refine .seq (.seq (.text (.mv rfl rfl (.mv rfl rfl (.len hx rfl rfl rfl (.cmp rfl rfl rfl rfl (.done (.thenN ?_))))))))
    refine .cond rfl (fun hb4 => ?_) (fun hb4 => ?_)
    ·
      have hk : k < xs.length := by simp [cmpI] at hb4; omega
      have hk' : k < ys.length := by omega
      refine .skip (.thenN ?_)
      refine .seq (.block (?_))
      refine J.cut (ι := Nat × Nat × Value × Value) (fun i => SlR h 1 RS i.2.2.1 xs[k].tags ∧ SlR h 1 RS i.2.2.2 ys[k].tags) (fun i => [(0, u), (1, v), (5, .int .i64 (k : Int)), (6, .pointer (some ⟨i.1, 0, none⟩)), (7, .pointer (some ⟨i.2.1, 0, none⟩))]) (fun _ => h) (fun i => [one i.2.1 (.cells ⟨svcV ys[k] i.2.2.2⟩ 31 (0, 0)), one i.1 (.cells ⟨svcV xs[k] i.2.2.1⟩ 31 (0, 0))]) ?_ ?_
      ·
        refine .tree2 (.seq [(0, .pure), (1, .pure), (2, .pure), (3, .read), (4, .pure), (5, .pure), (6, .pure)] (.both (.seq [(7, .grow)] (.both (.seq [(8, .grow), (9, .grow), (10, .mut), (11, .mut)] .nil) (.seq [(9, .grow), (8, .grow), (10, .mut), (11, .mut)] .nil))) (.both (.seq [(8, .grow)] (.both (.seq [(7, .grow), (9, .grow), (10, .mut), (11, .mut)] .nil) (.seq [(9, .grow)] (.both (.seq [(7, .grow), (10, .mut), (11, .mut)] .nil) (.seq [(10, .mut), (7, .grow), (11, .mut)] .nil))))) (.seq [(9, .grow)] (.both (.seq [(7, .grow), (8, .grow), (10, .mut), (11, .mut)] .nil) (.seq [(8, .grow)] (.both (.seq [(7, .grow), (10, .mut), (11, .mut)] .nil) (.seq [(10, .mut), (7, .grow), (11, .mut)] .nil)))))))) [4090, 4089, 4080, 1011, 4015, 3999, 3855, 0, 0, 0, 0, 0] [0, 0, 3, 4, 0, 0, 48, 64, 0, 0, 783, 2047] [3084, 3084, 3080, 3072, 2240, 2240, 2176, 2048, 3072, 3072, 2048, 0] [.pure, .pure, .pure, .read, .pure, .pure, .pure, .grow, .grow, .grow, .mut, .mut] rfl (by kernel_rfl) (by kernel_rfl) ?_
        refine .tSeq (.mv rfl rfl (.mv rfl rfl (.ix (i := k) hx rfl rfl rfl hk rfl (.ldE hx hk rfl rfl rfl fun vs hvs => ?_))))
        obtain ⟨tv, rfl, htv⟩ := hvs
        obtain ⟨tA, tc, rfl⟩ := htv.form
        refine .mv rfl rfl (.mv rfl rfl (.ix (i := k) hy rfl rfl rfl hk' rfl (.done (.thenN ?_))))
        refine .tBoth ?_ ?_
        ·
          refine .tSeq (.ldE hy hk' rfl rfl rfl fun vs hvs => ?_)
          obtain ⟨tv', rfl, htv'⟩ := hvs
          obtain ⟨tA', tc', rfl⟩ := htv'.form
          refine .done (.thenN ?_)
          refine .tBoth ?_ ?_
          ·
            refine .tSeq (.alloc (cs := [_, _, _, _, _, _, _]) rfl rfl rfl fun b6 => .alloc (cs := [_, _, _, _, _, _, _]) rfl rfl rfl fun b7 => .stW rfl rfl rfl rfl rfl rfl (.stW rfl rfl rfl rfl rfl rfl (.done (.thenN ?_))))
            refine .tNil (.thenN ?_)
            first | exact J.mid (b6, b7, _, _) ⟨htv, htv'⟩ (.cons rfl (.cons rfl (.cons rfl (.cons rfl (.cons rfl (.nil _)))))) rfl rfl | exact J.front 1 rfl (J.mid (b6, b7, _, _) ⟨htv, htv'⟩ (.cons rfl (.cons rfl (.cons rfl (.cons rfl (.cons rfl (.nil _)))))) rfl rfl)
          refine .tSeq (.alloc (cs := [_, _, _, _, _, _, _]) rfl rfl rfl fun b7 => .alloc (cs := [_, _, _, _, _, _, _]) rfl rfl rfl fun b6 => .stW rfl rfl rfl rfl rfl rfl (.stW rfl rfl rfl rfl rfl rfl (.done (.thenN ?_))))
          refine .tNil (.thenN ?_)
          first | exact J.mid (b6, b7, _, _) ⟨htv, htv'⟩ (.cons rfl (.cons rfl (.cons rfl (.cons rfl (.cons rfl (.nil _)))))) rfl rfl | exact J.front 1 rfl (J.mid (b6, b7, _, _) ⟨htv, htv'⟩ (.cons rfl (.cons rfl (.cons rfl (.cons rfl (.cons rfl (.nil _)))))) rfl rfl)
        refine .tBoth ?_ ?_
        ·
          refine .tSeq (.alloc (cs := [_, _, _, _, _, _, _]) rfl rfl rfl fun b6 => .done (.thenN ?_))
          refine .tBoth ?_ ?_
          ·
            refine .tSeq (.ldE hy hk' rfl rfl rfl fun vs hvs => ?_)
            obtain ⟨tv', rfl, htv'⟩ := hvs
            obtain ⟨tA', tc', rfl⟩ := htv'.form
            refine .alloc (cs := [_, _, _, _, _, _, _]) rfl rfl rfl fun b7 => .stW rfl rfl rfl rfl rfl rfl (.stW rfl rfl rfl rfl rfl rfl (.done (.thenN ?_)))
            refine .tNil (.thenN ?_)
            first | exact J.mid (b6, b7, _, _) ⟨htv, htv'⟩ (.cons rfl (.cons rfl (.cons rfl (.cons rfl (.cons rfl (.nil _)))))) rfl rfl | exact J.front 1 rfl (J.mid (b6, b7, _, _) ⟨htv, htv'⟩ (.cons rfl (.cons rfl (.cons rfl (.cons rfl (.cons rfl (.nil _)))))) rfl rfl)
          refine .tSeq (.alloc (cs := [_, _, _, _, _, _, _]) rfl rfl rfl fun b7 => .done (.thenN ?_))
          refine .tBoth ?_ ?_
          ·
            refine .tSeq (.ldE hy hk' rfl rfl rfl fun vs hvs => ?_)
            obtain ⟨tv', rfl, htv'⟩ := hvs
            obtain ⟨tA', tc', rfl⟩ := htv'.form
            refine .stW rfl rfl rfl rfl rfl rfl (.stW rfl rfl rfl rfl rfl rfl (.done (.thenN ?_)))
            refine .tNil (.thenN ?_)
            first | exact J.mid (b6, b7, _, _) ⟨htv, htv'⟩ (.cons rfl (.cons rfl (.cons rfl (.cons rfl (.cons rfl (.nil _)))))) rfl rfl | exact J.front 1 rfl (J.mid (b6, b7, _, _) ⟨htv, htv'⟩ (.cons rfl (.cons rfl (.cons rfl (.cons rfl (.cons rfl (.nil _)))))) rfl rfl)
          refine .tSeq (.stW rfl rfl rfl rfl rfl rfl (.ldE hy hk' rfl rfl rfl fun vs hvs => ?_))
          obtain ⟨tv', rfl, htv'⟩ := hvs
          obtain ⟨tA', tc', rfl⟩ := htv'.form
          refine .stW rfl rfl rfl rfl rfl rfl (.done (.thenN ?_))
          refine .tNil (.thenN ?_)
          first | exact J.mid (b6, b7, _, _) ⟨htv, htv'⟩ (.cons rfl (.cons rfl (.cons rfl (.cons rfl (.cons rfl (.nil _)))))) rfl rfl | exact J.front 1 rfl (J.mid (b6, b7, _, _) ⟨htv, htv'⟩ (.cons rfl (.cons rfl (.cons rfl (.cons rfl (.cons rfl (.nil _)))))) rfl rfl)
        refine .tSeq (.alloc (cs := [_, _, _, _, _, _, _]) rfl rfl rfl fun b7 => .done (.thenN ?_))
        refine .tBoth ?_ ?_
        ·
          refine .tSeq (.ldE hy hk' rfl rfl rfl fun vs hvs => ?_)
          obtain ⟨tv', rfl, htv'⟩ := hvs
          obtain ⟨tA', tc', rfl⟩ := htv'.form
          refine .alloc (cs := [_, _, _, _, _, _, _]) rfl rfl rfl fun b6 => .stW rfl rfl rfl rfl rfl rfl (.stW rfl rfl rfl rfl rfl rfl (.done (.thenN ?_)))
          refine .tNil (.thenN ?_)
          first | exact J.mid (b6, b7, _, _) ⟨htv, htv'⟩ (.cons rfl (.cons rfl (.cons rfl (.cons rfl (.cons rfl (.nil _)))))) rfl rfl | exact J.front 1 rfl (J.mid (b6, b7, _, _) ⟨htv, htv'⟩ (.cons rfl (.cons rfl (.cons rfl (.cons rfl (.cons rfl (.nil _)))))) rfl rfl)
        refine .tSeq (.alloc (cs := [_, _, _, _, _, _, _]) rfl rfl rfl fun b6 => .done (.thenN ?_))
        refine .tBoth ?_ ?_
        ·
          refine .tSeq (.ldE hy hk' rfl rfl rfl fun vs hvs => ?_)
          obtain ⟨tv', rfl, htv'⟩ := hvs
          obtain ⟨tA', tc', rfl⟩ := htv'.form
          refine .stW rfl rfl rfl rfl rfl rfl (.stW rfl rfl rfl rfl rfl rfl (.done (.thenN ?_)))
          refine .tNil (.thenN ?_)
          first | exact J.mid (b6, b7, _, _) ⟨htv, htv'⟩ (.cons rfl (.cons rfl (.cons rfl (.cons rfl (.cons rfl (.nil _)))))) rfl rfl | exact J.front 1 rfl (J.mid (b6, b7, _, _) ⟨htv, htv'⟩ (.cons rfl (.cons rfl (.cons rfl (.cons rfl (.cons rfl (.nil _)))))) rfl rfl)
        refine .tSeq (.stW rfl rfl rfl rfl rfl rfl (.ldE hy hk' rfl rfl rfl fun vs hvs => ?_))
        obtain ⟨tv', rfl, htv'⟩ := hvs
        obtain ⟨tA', tc', rfl⟩ := htv'.form
        refine .stW rfl rfl rfl rfl rfl rfl (.done (.thenN ?_))
        refine .tNil (.thenN ?_)
        first | exact J.mid (b6, b7, _, _) ⟨htv, htv'⟩ (.cons rfl (.cons rfl (.cons rfl (.cons rfl (.cons rfl (.nil _)))))) rfl rfl | exact J.front 1 rfl (J.mid (b6, b7, _, _) ⟨htv, htv'⟩ (.cons rfl (.cons rfl (.cons rfl (.cons rfl (.cons rfl (.nil _)))))) rfl rfl)
      ·
        rintro ⟨b6, b7, tv, tv'⟩ ⟨htv, htv'⟩
        dsimp only [svcV] at htv htv' ⊢
        refine .seq (.text (.fa rfl rfl (.ld rfl rfl rfl rfl (.fa rfl rfl (.ld rfl rfl rfl rfl (.cmp rfl rfl rfl rfl (.mv rfl rfl (.or (d := 38) (g := 32) _ _ (take_drop 6) rfl rfl (fun hb7_6 => .guard rfl rfl rfl rfl (.fa rfl rfl (.guard rfl rfl rfl rfl (.ld rfl rfl rfl rfl (.guard rfl rfl rfl rfl (.fa rfl rfl (.guard rfl rfl rfl rfl (.ld rfl rfl rfl rfl (.guard rfl rfl rfl rfl (.cmpS rfl rfl rfl rfl (.pick rfl rfl rfl rfl ((.done (.thenN (.midB rfl))))))))))))))) (.guardNo rfl rfl rfl rfl rfl rfl (.guardNo rfl rfl rfl rfl rfl rfl (.guardNo rfl rfl rfl rfl rfl rfl (.guardNo rfl rfl rfl rfl rfl rfl (.guardNo rfl rfl rfl rfl rfl rfl (.pick rfl rfl rfl rfl ((.done (.thenN (.midB rfl)))))))))) (.mv rfl rfl (.or (d := 45) (g := 39) _ _ (take_drop 6) rfl rfl (fun hb7_13 => .guard rfl rfl rfl rfl (.fa rfl rfl (.guard rfl rfl rfl rfl (.ld rfl rfl rfl rfl (.guard rfl rfl rfl rfl (.fa rfl rfl (.guard rfl rfl rfl rfl (.ld rfl rfl rfl rfl (.guard rfl rfl rfl rfl (.cmpS rfl rfl rfl rfl (.pick rfl rfl rfl rfl ((.done (.thenN (.midB rfl))))))))))))))) (.guardNo rfl rfl rfl rfl rfl rfl (.guardNo rfl rfl rfl rfl rfl rfl (.guardNo rfl rfl rfl rfl rfl rfl (.guardNo rfl rfl rfl rfl rfl rfl (.guardNo rfl rfl rfl rfl rfl rfl (.pick rfl rfl rfl rfl ((.done (.thenN (.midB rfl)))))))))) (.mv rfl rfl (.or (d := 53) (g := 46) _ _ (take_drop 7) rfl rfl (fun hb7_20 => .guard rfl rfl rfl rfl (.fa rfl rfl (.guard rfl rfl rfl rfl (.ld rfl rfl rfl rfl (.guard rfl rfl rfl rfl (.fa rfl rfl (.guard rfl rfl rfl rfl (.ld rfl rfl rfl rfl (.guard rfl rfl rfl rfl (.callV rfl rfl (same01G_walk htv htv') rfl rfl (.guard rfl rfl rfl rfl (.not rfl rfl (.pick rfl rfl rfl rfl ((.done (.thenN (.midB rfl))))))))))))))))) (.guardNo rfl rfl rfl rfl rfl rfl (.guardNo rfl rfl rfl rfl rfl rfl (.guardNo rfl rfl rfl rfl rfl rfl (.guardNo rfl rfl rfl rfl rfl rfl (.guardNo rfl rfl rfl rfl rfl rfl (.guardNo rfl rfl rfl rfl rfl rfl (.pick rfl rfl rfl rfl ((.done (.thenN (.midB rfl))))))))))) (.mv rfl rfl (.or (d := 60) (g := 54) _ _ (take_drop 6) rfl rfl (fun hb7_28 => .guard rfl rfl rfl rfl (.fa rfl rfl (.guard rfl rfl rfl rfl (.ld rfl rfl rfl rfl (.guard rfl rfl rfl rfl (.fa rfl rfl (.guard rfl rfl rfl rfl (.ld rfl rfl rfl rfl (.guard rfl rfl rfl rfl (.cmp rfl rfl rfl rfl (.pick rfl rfl rfl rfl ((.done (.thenN (.midB rfl))))))))))))))) (.guardNo rfl rfl rfl rfl rfl rfl (.guardNo rfl rfl rfl rfl rfl rfl (.guardNo rfl rfl rfl rfl rfl rfl (.guardNo rfl rfl rfl rfl rfl rfl (.guardNo rfl rfl rfl rfl rfl rfl (.pick rfl rfl rfl rfl ((.done (.thenN (.midB rfl)))))))))) (.mv rfl rfl (.or (d := 67) (g := 61) _ _ (take_drop 6) rfl rfl (fun hb7_35 => .guard rfl rfl rfl rfl (.fa rfl rfl (.guard rfl rfl rfl rfl (.ld rfl rfl rfl rfl (.guard rfl rfl rfl rfl (.fa rfl rfl (.guard rfl rfl rfl rfl (.ld rfl rfl rfl rfl (.guard rfl rfl rfl rfl (.cmp rfl rfl rfl rfl (.pick rfl rfl rfl rfl ((.done (.thenN (.midB rfl))))))))))))))) (.guardNo rfl rfl rfl rfl rfl rfl (.guardNo rfl rfl rfl rfl rfl rfl (.guardNo rfl rfl rfl rfl rfl rfl (.guardNo rfl rfl rfl rfl rfl rfl (.guardNo rfl rfl rfl rfl rfl rfl (.pick rfl rfl rfl rfl ((.done (.thenN (.midB rfl)))))))))) (.mv rfl rfl (.or (d := 74) (g := 68) _ _ (take_drop 6) rfl rfl (fun hb7_42 => .guard rfl rfl rfl rfl (.fa rfl rfl (.guard rfl rfl rfl rfl (.ld rfl rfl rfl rfl (.guard rfl rfl rfl rfl (.fa rfl rfl (.guard rfl rfl rfl rfl (.ld rfl rfl rfl rfl (.guard rfl rfl rfl rfl (.cmp rfl rfl rfl rfl (.pick rfl rfl rfl rfl ((.done (.thenN (.midB rfl))))))))))))))) (.guardNo rfl rfl rfl rfl rfl rfl (.guardNo rfl rfl rfl rfl rfl rfl (.guardNo rfl rfl rfl rfl rfl rfl (.guardNo rfl rfl rfl rfl rfl rfl (.guardNo rfl rfl rfl rfl rfl rfl (.pick rfl rfl rfl rfl ((.done (.thenN (.midB rfl)))))))))) (.done (.thenN ?_))))))))))))))))))))
        refine .cond rfl (fun hb7 => ?_) (fun hb7 => ?_)
        ·
          replace hb7 := hb7.symm.trans neS
          refine .seq (.text (.as_ rfl rfl (.done (.thenN ?_))))
          refine .ret (.blkR (.thenR (.thenR (.blkR (.thenR ?_)))))
          exact J.retV rfl (by rw [sameFk hk hk' (by simpa using hb7)]; rfl)
        ·
          replace hb7 := hb7.symm.trans neS
          refine .skip (.blkN (.thenN ?_))
          refine .text (.mv rfl rfl (.inc rfl rfl (by have := hx.len; unfold maxL at this; omega) rfl (.as_ rfl rfl (.done (.thenN ?_)))))
          have heq : xs[k] = ys[k] := by simpa using hb7
          exact J.dropF 2 (J.again (k + 1) (by omega) ⟨hk, sameK hk hk' hk1 heq⟩ (.cons rfl (.cons rfl (.cons rfl (.nil _)))) rfl rfl)
    ·
      have hk : k = xs.length := by simp [cmpI] at hb4; omega
      subst hk
      refine .exit (.thenE (.thenE (.blkHit (.thenN ?_))))
      refine .seq (.text (.as_ rfl rfl (.done (.thenN ?_))))
      refine .ret ?_
      exact J.retV rfl (by rw [sameT hle hk1]; rfl)

theorem sameG_walk {h m mw : Hp} {rp wb : Nat} {R : Rst} {W : Rrf} (hR : Ro m h rp R) (hwf : RWf R) (hW : Rb mw h wb W) : FR Go.Proofs.Tryz.prog 10 [.pointer (some ⟨rp, 0, none⟩), .pointer (some ⟨wb, 0, none⟩)] h [m, mw] (.bool (rosSame R W)) := by
  refine FS.enter Go.Proofs.Tryz.func10 rfl rfl fun w0 => ?_
  obtain ⟨t0, t1, t2, m0, m1, m2, hb, rfl, d0, d1, T0, T1, T2⟩ := hR
  obtain ⟨rv0, mr0, rfl, dd0, hr0⟩ := T0
  obtain ⟨rv1, mr1, rfl, dd1, hr1⟩ := T1
  obtain ⟨rv2, mr2, rfl, dd2, hr2⟩ := T2
  obtain ⟨nv, sv, cv, rfl, hn, hs, hc⟩ := hW
  haveI : ∀ L, At h L rp (.cells ⟨rosV t0 t1 t2⟩ 66 (0, 0)) := fun L => At.ofH hb
  refine J.open6 d0 d1 dd0 dd1 dd2 ?_
  unfold rfV
  refine .seq (.text (.as_ rfl rfl (.done (.thenN ?_))))
  refine .seq (.draw [(0, .pure), (2, .pure), (3, .pure), (4, .pure), (5, .read), (1, .grow), (6, .grow), (7, .pure), (8, .pure), (10, .pure), (11, .pure), (12, .pure), (13, .read), (9, .grow), (14, .grow), (15, .pure), (16, .pure), (17, .pure), (19, .pure), (20, .pure), (21, .pure), (22, .read), (18, .grow), (23, .grow), (24, .pure), (25, .pure), (26, .pure), (28, .pure), (29, .pure), (30, .pure), (31, .read), (27, .grow), (32, .pure), (33, .pure), (34, .pure)] rfl (by kernel_rfl) (.mv rfl rfl (.mv rfl rfl (.nilOk rfl rfl (.fa rfl rfl (.ld rfl rfl rfl rfl (?_)))))))
  refine .callG rfl rfl (nodes_walk hr0 hwf.ne) rfl rfl fun u6 h6 hl6 hu6 => ?_
  have hb := hl6 _ _ hb
  haveI : ∀ L, At h6 L rp (.cells ⟨rosV t0 t1 t2⟩ 66 (0, 0)) := fun L => At.ofH hb
  have hr0 := hr0.mono (RRow.mono RNod.mono) hl6
  have hr1 := hr1.mono (RRow.mono RSvc.mono) hl6
  have hr2 := hr2.mono (RRow.mono RChk.mono) hl6
  have hn := hn.mono RNod.mono hl6
  have hs := hs.mono RSvc.mono hl6
  have hc := hc.mono RChk.mono hl6
  refine ?_
  refine .callV rfl rfl (sameNG_walk hu6 hn) rfl rfl (.mv rfl rfl (.grpG (ι := Hp) (fun i => h6.le i) (fun _ => decide (R.n.map toldN = W.nodes) && decide (R.s.map toldS = W.services)) (fun i => i) (fun _ => [one t2 (.cells ⟨[.int .i64 R.most, rv2, .int .u64 R.l2]⟩ 117 (0, 0)), mr2, one t1 (.cells ⟨[.int .i64 R.most, rv1, .int .u64 R.l1]⟩ 114 (0, 0)), mr1, one t0 (.cells ⟨[.int .i64 R.most, rv0, .int .u64 R.l0]⟩ 111 (0, 0)), mr0, one wb (.cells ⟨rfV W nv sv cv⟩ 68 (0, 0))]) (d := 20) _ _ (take_drop 8) rfl ?_ ?_))
  ·
    refine J.split (t := 12) rfl (fun hb1_8 => ?_) (fun hb1_8 => ?_)
    ·
      refine .guard rfl rfl rfl rfl (.mv rfl rfl (.guard rfl rfl rfl rfl (.mv rfl rfl (.guard rfl rfl rfl rfl (.nilOk rfl rfl (.guard rfl rfl rfl rfl (.fa rfl rfl (.guard rfl rfl rfl rfl (.ld rfl rfl rfl rfl (.guard rfl rfl rfl rfl (?_)))))))))))
      refine .callG rfl rfl (services_walk hr1 hwf.ne) rfl rfl fun u14 h14 hl14 hu14 => ?_
      have hb := hl14 _ _ hb
      haveI : ∀ L, At h14 L rp (.cells ⟨rosV t0 t1 t2⟩ 66 (0, 0)) := fun L => At.ofH hb
      have hr0 := hr0.mono (RRow.mono RNod.mono) hl14
      have hr1 := hr1.mono (RRow.mono RSvc.mono) hl14
      have hr2 := hr2.mono (RRow.mono RChk.mono) hl14
      have hn := hn.mono RNod.mono hl14
      have hs := hs.mono RSvc.mono hl14
      have hc := hc.mono RChk.mono hl14
      refine .guard rfl rfl rfl rfl (?_)
      refine .callV rfl rfl (sameSG_walk hu14 hs) rfl rfl (.pick rfl rfl rfl rfl ((.done (.thenN ?_))))
      exact J.midG h14 hl14 (by rw [hb1_8]; rfl) rfl rfl
    ·
      refine .guardNo rfl rfl rfl rfl rfl rfl (.guardNo rfl rfl rfl rfl rfl rfl (.guardNo rfl rfl rfl rfl rfl rfl (.guardNo rfl rfl rfl rfl rfl rfl (.guardNo rfl rfl rfl rfl rfl rfl (.guardNo rfl rfl rfl rfl rfl rfl (.guardNo rfl rfl rfl rfl rfl rfl (.pick rfl rfl rfl rfl ((.done (.thenN ?_))))))))))
      exact J.midG h6 (Hp.le_refl _) (by rw [hb1_8]; rfl) rfl rfl
  rintro h7 hl7
  have hb := hl7 _ _ hb
  haveI : ∀ L, At h7 L rp (.cells ⟨rosV t0 t1 t2⟩ 66 (0, 0)) := fun L => At.ofH hb
  have hr0 := hr0.mono (RRow.mono RNod.mono) hl7
  have hr1 := hr1.mono (RRow.mono RSvc.mono) hl7
  have hr2 := hr2.mono (RRow.mono RChk.mono) hl7
  have hn := hn.mono RNod.mono hl7
  have hs := hs.mono RSvc.mono hl7
  have hc := hc.mono RChk.mono hl7
  refine .mv rfl rfl (.grpG (ι := Hp) (fun i => h7.le i) (fun _ => (decide (R.n.map toldN = W.nodes) && decide (R.s.map toldS = W.services)) && decide (R.c.map toldC = W.checks)) (fun i => i) (fun _ => [one t2 (.cells ⟨[.int .i64 R.most, rv2, .int .u64 R.l2]⟩ 117 (0, 0)), mr2, one t1 (.cells ⟨[.int .i64 R.most, rv1, .int .u64 R.l1]⟩ 114 (0, 0)), mr1, one t0 (.cells ⟨[.int .i64 R.most, rv0, .int .u64 R.l0]⟩ 111 (0, 0)), mr0, one wb (.cells ⟨rfV W nv sv cv⟩ 68 (0, 0))]) (d := 29) _ _ (take_drop 8) rfl ?_ ?_)
  ·
    refine J.split (t := 21) rfl (fun hb1_17 => ?_) (fun hb1_17 => ?_)
    ·
      refine .guard rfl rfl rfl rfl (.mv rfl rfl (.guard rfl rfl rfl rfl (.mv rfl rfl (.guard rfl rfl rfl rfl (.nilOk rfl rfl (.guard rfl rfl rfl rfl (.fa rfl rfl (.guard rfl rfl rfl rfl (.ld rfl rfl rfl rfl (.guard rfl rfl rfl rfl (?_)))))))))))
      refine .callG rfl rfl (checks_walk hr2 hwf.ne) rfl rfl fun u23 h23 hl23 hu23 => ?_
      have hb := hl23 _ _ hb
      haveI : ∀ L, At h23 L rp (.cells ⟨rosV t0 t1 t2⟩ 66 (0, 0)) := fun L => At.ofH hb
      have hr0 := hr0.mono (RRow.mono RNod.mono) hl23
      have hr1 := hr1.mono (RRow.mono RSvc.mono) hl23
      have hr2 := hr2.mono (RRow.mono RChk.mono) hl23
      have hn := hn.mono RNod.mono hl23
      have hs := hs.mono RSvc.mono hl23
      have hc := hc.mono RChk.mono hl23
      refine .guard rfl rfl rfl rfl (?_)
      refine .callV rfl rfl (sameCG_walk hu23 hc) rfl rfl (.pick rfl rfl rfl rfl ((.done (.thenN ?_))))
      exact J.midG h23 hl23 (by rw [hb1_17]; rfl) rfl rfl
    ·
      refine .guardNo rfl rfl rfl rfl rfl rfl (.guardNo rfl rfl rfl rfl rfl rfl (.guardNo rfl rfl rfl rfl rfl rfl (.guardNo rfl rfl rfl rfl rfl rfl (.guardNo rfl rfl rfl rfl rfl rfl (.guardNo rfl rfl rfl rfl rfl rfl (.guardNo rfl rfl rfl rfl rfl rfl (.pick rfl rfl rfl rfl ((.done (.thenN ?_))))))))))
      exact J.midG h7 (Hp.le_refl _) (by rw [hb1_17]; rfl) rfl rfl
  rintro h8 hl8
  have hb := hl8 _ _ hb
  haveI : ∀ L, At h8 L rp (.cells ⟨rosV t0 t1 t2⟩ 66 (0, 0)) := fun L => At.ofH hb
  have hr0 := hr0.mono (RRow.mono RNod.mono) hl8
  have hr1 := hr1.mono (RRow.mono RSvc.mono) hl8
  have hr2 := hr2.mono (RRow.mono RChk.mono) hl8
  have hn := hn.mono RNod.mono hl8
  have hs := hs.mono RSvc.mono hl8
  have hc := hc.mono RChk.mono hl8
  refine .mv rfl rfl (.and (d := 38) (g := 30) _ _ (take_drop 8) rfl rfl (fun hb1_26 => .guard rfl rfl rfl rfl (.mv rfl rfl (.guard rfl rfl rfl rfl (.mv rfl rfl (.guard rfl rfl rfl rfl (.nilOk rfl rfl (.guard rfl rfl rfl rfl (.fa rfl rfl (.guard rfl rfl rfl rfl (.ldA [.int .u64 W.l0, .int .u64 W.l1, .int .u64 W.l2] rfl rfl rfl rfl rfl (.guard rfl rfl rfl rfl (.callR rfl rfl (rlast_walk hwf.ne hwf.ne hwf.ne) rfl rfl (.guard rfl rfl rfl rfl (.eqA (b := decide (R.l0 = W.l0) && (decide (R.l1 = W.l1) && decide (R.l2 = W.l2))) rfl rfl eqLast (.inl ⟨rfl, rfl⟩) rfl (.pick rfl rfl rfl rfl ((.done (.thenN (.midB rfl))))))))))))))))))) (.guardNo rfl rfl rfl rfl rfl rfl (.guardNo rfl rfl rfl rfl rfl rfl (.guardNo rfl rfl rfl rfl rfl rfl (.guardNo rfl rfl rfl rfl rfl rfl (.guardNo rfl rfl rfl rfl rfl rfl (.guardNo rfl rfl rfl rfl rfl rfl (.guardNo rfl rfl rfl rfl rfl rfl (.pick rfl rfl rfl rfl ((.done (.thenN (.midB rfl)))))))))))) (.as_ rfl rfl (.done (.thenN ?_))))
  refine .ret ?_
  refine J.shut6 fun _ _ _ _ _ => ?_
  exact J.retR rfl rfl (List.Sublist.refl _)
end Go.Sod
