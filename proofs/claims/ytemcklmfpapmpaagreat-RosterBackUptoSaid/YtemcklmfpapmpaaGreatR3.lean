/-
  The tables' Put, walked. Conditions: none.
-/
import Derived.Test.YtemcklmfpapmpaaGreatR2
namespace Go.Sod
set_option linter.unusedVariables false
set_option linter.unusedSimpArgs false
set_option maxRecDepth 10000
set_option maxHeartbeats 4000000

def putRow {α : Type} (xs : List (Row α)) (key : ByteArray) (v : α) (ix : Int) : Row α := ⟨key, v, if atIs xs key then ((xs[atK xs key]?).map (·.made)).getD 0 else ix, ix⟩
/-- the rows behind a Put; none: there is no room -/
def putFull {α : Type} (most : Int) (xs : List (Row α)) (key : ByteArray) : Bool := !atIs xs key && decide (most ≤ (xs.length : Int))
def putL {α : Type} (xs : List (Row α)) (key : ByteArray) (v : α) (ix : Int) (r0 : Row α) : List (Row α) :=
  if atIs xs key then xs.set (atK xs key) (putRow xs key v ix) else (upL (xs ++ [r0]) (atK xs key)).set (atK xs key) (putRow xs key v ix)
def nod0 : Nod := ⟨0, ⟨#[]⟩, 0, 0⟩
def rowN0 : Row Nod := ⟨⟨#[]⟩, nod0, 0, 0⟩
def rowS0 : Row Svc := ⟨⟨#[]⟩, ⟨0, ⟨#[]⟩, ⟨#[]⟩, [], 0, 0, 0⟩, 0, 0⟩
def rowC0 : Row Chk := ⟨⟨#[]⟩, ⟨0, ⟨#[]⟩, ⟨#[]⟩, ⟨#[]⟩, 0, 0, 0⟩, 0, 0⟩
theorem RRow.fm {α : Type} {R : Rp α} {h : Hp} {r : Row α} {vs : List Value} {n : Nat} (hn : ∀ ws, R h r.val ws → ws.length = n) (e : RRow R h r vs) : vs[n + 1]? = some (.int .u64 r.made) := by
  obtain ⟨ws, rfl, hw⟩ := e
  have := hn ws hw
  subst this
  simp

theorem putNod {h m : Hp} {tb : Nat} {most last ix : Int} {xs : List (Row Nod)} {key : ByteArray} {v : Nod} {ws : List Value} (ht : Tb 7 119 111 RNod m h tb most xs last) (hs : Srt xs) (hm : most ≠ 0) (hv : RNod h v ws) (hmax : xs.length < maxL) : FM Go.Proofs.Tryz.prog 62 [.pointer (some ⟨tb, 0, none⟩), .string key, .agg ⟨ws⟩, .int .u64 ix] h m (fun u h' m' => h' = h ∧ ∃ vs, u = .tuple ⟨[.agg ⟨vs⟩, .int .i64 (if putFull most xs key then 5 else 0)]⟩ ∧ vs.length = 7 ∧ vs.all oneV = true ∧ Tb 7 119 111 RNod m' h tb most (if putFull most xs key then xs else putL xs key v ix rowN0) (if putFull most xs key then last else max last ix)) := by
  obtain ⟨rv, mr, rfl, hd, hr⟩ := ht
  refine FS.enter Go.Proofs.Tryz.func62 rfl rfl fun w0 => ?_
  obtain rfl := hv
  refine J.open hd ?_
  have hlen := hr.len
  obtain ⟨rA, rc, rfl⟩ := hr.form
  refine .seq (.text (.box (cs := [_, _, _, _]) rfl rfl rfl rfl fun b6 => .alloc (cs := [_, _, _, _, _, _, _]) rfl rfl rfl fun b8 => .as_ rfl rfl (.done (.thenN ?_))))
  refine .seq (.seq (.text (.mv rfl rfl (?_))))
  refine .callR rfl rfl (noneNod hm) rfl rfl (.done (.thenN ?_))
  refine .condF rfl ?_
  refine .skip (.thenN ?_)
  refine .seq (.text (.mv rfl rfl (.mv rfl rfl (?_))))
  refine .callR rfl rfl (atNod hr hs) rfl rfl (.mv rfl rfl (.ext rfl rfl rfl (.ext rfl rfl rfl (.as_ rfl rfl (.as_ rfl rfl (.done (.thenN ?_)))))))
  refine .seq (.seq (.draw [(0, .pure), (1, .pure), (2, .pure), (3, .pure), (4, .pure), (5, .pure), (6, .read), (7, .pure), (8, .pure), (9, .pure), (10, .pure), (11, .read), (12, .pure), (13, .pure)] rfl (by kernel_rfl) (.mv rfl rfl (.not rfl rfl (.mv rfl rfl (.and (d := 35) (g := 24) _ _ (take_drop 11) rfl rfl (fun hb4_3 => .guard rfl rfl rfl rfl (.mv rfl rfl (.guard rfl rfl rfl rfl (.nilOk rfl rfl (.guard rfl rfl rfl rfl (.fa rfl rfl (.guard rfl rfl rfl rfl (.ld rfl rfl rfl rfl (.guard rfl rfl rfl rfl (.lenT hr rfl rfl rfl (.guard rfl rfl rfl rfl (.mv rfl rfl (.guard rfl rfl rfl rfl (.nilOk rfl rfl (.guard rfl rfl rfl rfl (.fa rfl rfl (.guard rfl rfl rfl rfl (.ld rfl rfl rfl rfl (.guard rfl rfl rfl rfl (.cmp rfl rfl rfl rfl (.pick rfl rfl rfl rfl ((.done (.thenN (.midB rfl))))))))))))))))))))))))) (.guardNo rfl rfl rfl rfl rfl rfl (.guardNo rfl rfl rfl rfl rfl rfl (.guardNo rfl rfl rfl rfl rfl rfl (.guardNo rfl rfl rfl rfl rfl rfl (.guardNo rfl rfl rfl rfl rfl rfl (.guardNo rfl rfl rfl rfl rfl rfl (.guardNo rfl rfl rfl rfl rfl rfl (.guardNo rfl rfl rfl rfl rfl rfl (.guardNo rfl rfl rfl rfl rfl rfl (.guardNo rfl rfl rfl rfl rfl rfl (.pick rfl rfl rfl rfl ((.done (.thenN (.midB rfl))))))))))))))) (.done (.thenN ?_))))))))
  refine .cond rfl (fun hb4 => ?_) (fun hb4 => ?_)
  ·
    refine .seq (.text (.bld [_, _, _, _, _, _, _] rfl (by rfl) rfl ?_))
    refine .stW rfl rfl rfl rfl rfl rfl (.as_ rfl rfl (.done (.thenN ?_)))
    refine .ret (.thenR ?_)
    have hfull : putFull most xs key = true := hb4
    refine J.front 3 rfl (J.front 3 rfl (J.shut fun hd' => ?_))
    refine J.retAT rfl rfl rfl rfl (List.Sublist.cons_cons _ (List.nil_sublist _)) ⟨_, rfl, rfl, _, by rw [hfull]; rfl, rfl, rfl, ?_⟩
    rw [hfull]; exact ⟨_, _, rfl, hd', hr⟩
  ·
    refine .skip (.thenN ?_)
    refine .seq (.text (.mv rfl rfl (.ldW rfl rfl rfl rfl (.mv rfl rfl (.mv rfl rfl (.bld [_, _, _, _, _, _, _] rfl (by rfl) rfl ?_))))))
    refine .alloc (cs := [_, _, _, _, _, _, _]) rfl rfl rfl fun b12 => .stW rfl rfl rfl rfl rfl rfl (.done (.thenN ?_))
    refine J.cut (ι := Value × Hp × Int) (fun i => i.2.2 = (putRow xs key v ix).made ∧ SlT i.2.1 h i.1 7 119 (RRow RNod) (putL xs key v ix rowN0)) (fun i => [(0, .pointer (some ⟨tb, 0, none⟩)), (3, .int .u64 ix), (8, .pointer (some ⟨b8, 0, none⟩)), (12, .pointer (some ⟨b12, 0, none⟩))]) (fun _ => h) (fun i => [one b12 (.cells ⟨.string key :: ([.int .i64 v.node, .string v.addr, .int .u64 v.made, .int .u64 v.ix] ++ [.int .u64 i.2.2, .int .u64 ix])⟩ 119 (0, 0)), one b8 (.cells ⟨[.string ⟨#[]⟩, .int .i64 0, .string ⟨#[]⟩, .int .u64 0, .int .u64 0, .int .u64 0, .int .u64 0]⟩ 119 (0, 0)), one b6 (.cells ⟨[.int .i64 v.node, .string v.addr, .int .u64 v.made, .int .u64 v.ix]⟩ 49 (0, 0)), one tb (.cells ⟨[.int .i64 most, i.1, .int .u64 last]⟩ 111 (0, 0)), i.2.1]) ?_ ?_
    ·
      refine .seq (.text (.mv rfl rfl (.done (.thenN ?_))))
      refine .cond rfl (fun hb7 => ?_) (fun hb7 => ?_)
      ·
        have his : atIs xs key = true := by simpa using hb7
        have hk : atK xs key < xs.length := by unfold atIs at his; simp only [Bool.and_eq_true, decide_eq_true_eq] at his; omega
        refine .seq (.text (.mv rfl rfl (.nilOk rfl rfl (.fa rfl rfl (.ld rfl rfl rfl rfl (.mv rfl rfl (.ixT (i := atK xs key) hr rfl rfl rfl hk rfl (.faE rfl (hr.ne (by omega)) rfl (.ldTF (i := atK xs key) (.int .u64 xs[atK xs key].made) hr hk rfl (fun vs e => RRow.fm (n := 4) (fun ws hw => by obtain rfl := hw; rfl) e) rfl rfl (.fa rfl rfl (.stS rfl rfl rfl rfl (.done (.thenN ?_)))))))))))))
        refine .draw [(0, .pure), (1, .pure), (2, .pure), (3, .read), (4, .pure), (5, .read), (6, .pure), (7, .mut)] rfl (by kernel_rfl) (.mv rfl rfl (.nilOk rfl rfl (.fa rfl rfl (.ld rfl rfl rfl rfl (.mv rfl rfl (.ldW rfl rfl rfl rfl (.ixT (i := atK xs key) hr rfl rfl rfl hk rfl (.stE (z := putRow xs key v ix) hr hk rfl rfl rfl rfl (by rw [show putRow xs key v ix = ⟨key, v, xs[atK xs key].made, ix⟩ from by simp [putRow, his, hk]]; exact ⟨_, rfl, rfl⟩) rfl fun m9 hm9 => .done (.thenN ?_)))))))))
        refine J.mid (_, m9, _) ⟨?_, ?_⟩ (.cons rfl (.cons rfl (.cons rfl (.cons rfl (.nil _))))) rfl rfl
        · simp [putRow, his, hk]
        · dsimp only; rw [putL, if_pos his]; exact hm9
      ·
        refine .seq (.text (.mv rfl rfl (.mv rfl rfl (.nilOk rfl rfl (.fa rfl rfl (.ld rfl rfl rfl rfl (.bld [_, _, _, _, _, _, _] rfl (by rfl) rfl ?_)))))))
        refine .bs ([_, _, _, _, _, _, _]) rfl rfl rfl rfl (by decide) rfl rfl rfl fun b65 => ?_
        refine .app1 (R := RRow RNod) (z := rowN0) rfl hr rfl rfl rfl rfl ⟨_, rfl, rfl⟩ (by omega) rfl rfl fun v66 m66 hm66 => ?_
        obtain ⟨A66, c66, rfl⟩ := hm66.form
        have hnis : atIs xs key = false := by simpa using hb7
        have hkl : atK xs key ≤ xs.length := firstN_le _ _
        refine .nilOk rfl rfl (.fa rfl rfl (.stS rfl rfl rfl rfl (.done (.thenN ?_))))
        refine .seq (.draw [(0, .pure), (1, .pure), (2, .pure), (3, .read), (4, .pure), (5, .pure), (6, .pure), (7, .pure), (8, .pure), (9, .pure), (10, .read), (11, .pure), (12, .pure), (13, .mut)] rfl (by kernel_rfl) (.mv rfl rfl (.nilOk rfl rfl (.fa rfl rfl (.ld rfl rfl rfl rfl (.mv rfl rfl (.inc rfl rfl (by unfold maxL at hmax; omega) rfl (.slTail (i := atK xs key + 1) rfl rfl rfl (by simp; omega) rfl (.mv rfl rfl (.nilOk rfl rfl (.fa rfl rfl (.ld rfl rfl rfl rfl (.mv rfl rfl (.slTail (i := atK xs key) rfl rfl rfl (by simp; omega) rfl (.copyUp (i := atK xs key) rfl hm66 (by simp; omega) rfl rfl rfl rfl fun m82 hm82 => .done (.thenN ?_))))))))))))))))
        refine .draw [(0, .pure), (1, .pure), (2, .pure), (3, .read), (4, .pure), (5, .read), (6, .pure), (7, .mut)] rfl (by kernel_rfl) (.mv rfl rfl (.nilOk rfl rfl (.fa rfl rfl (.ld rfl rfl rfl rfl (.mv rfl rfl (.ldW rfl rfl rfl rfl (.ixT (i := atK xs key) hm82 rfl rfl rfl (by rw [upL_len (by simp; omega)]; simp; omega) rfl (.stE (z := putRow xs key v ix) hm82 (by rw [upL_len (by simp; omega)]; simp; omega) rfl rfl rfl rfl (by rw [show putRow xs key v ix = ⟨key, v, ix, ix⟩ from by simp [putRow, hnis]]; exact ⟨_, rfl, rfl⟩) rfl fun m12 hm12 => .done (.thenN ?_)))))))))
        refine J.dropF 1 (J.mid (_, m12, ix) ⟨?_, ?_⟩ (.cons rfl (.cons rfl (.cons rfl (.cons rfl (.nil _))))) rfl rfl)
        · simp [putRow, hnis]
        · dsimp only; rw [putL, if_neg (by rw [hnis]; decide)]; exact hm12
    ·
      rintro ⟨rv', mr', md⟩ ⟨hmd, hp⟩
      dsimp only at hmd hp ⊢
      refine J.front 4 rfl (J.front 4 rfl (J.shut fun hd' => ?_))
      refine .seq (.text (.mv rfl rfl (.mv rfl rfl (?_))))
      refine .callM rfl rfl (raiseNod ⟨_, _, rfl, hd', hp⟩ hm) rfl rfl fun u92 h92 m92 hl92 hu92 => ?_
      obtain ⟨rfl, rfl, ht'⟩ := hu92
      refine .done (.thenN ?_)
      refine .seq (.text (.ldW rfl rfl rfl rfl (.stW rfl rfl rfl rfl rfl rfl (.as_ rfl rfl (.done (.thenN ?_))))))
      refine .ret ?_
      have hfull : putFull most xs key = false := hb4
      refine J.retAT rfl rfl rfl rfl (List.Sublist.cons_cons _ (List.nil_sublist _)) ⟨_, rfl, rfl, _, by rw [hfull]; rfl, rfl, rfl, ?_⟩
      rw [hfull]; exact ht'

theorem putSvc {h m : Hp} {tb : Nat} {most last ix : Int} {xs : List (Row Svc)} {key : ByteArray} {v : Svc} {ws : List Value} (ht : Tb 10 131 114 RSvc m h tb most xs last) (hs : Srt xs) (hm : most ≠ 0) (hv : RSvc h v ws) (hmax : xs.length < maxL) : FM Go.Proofs.Tryz.prog 74 [.pointer (some ⟨tb, 0, none⟩), .string key, .agg ⟨ws⟩, .int .u64 ix] h m (fun u h' m' => h' = h ∧ ∃ vs, u = .tuple ⟨[.agg ⟨vs⟩, .int .i64 (if putFull most xs key then 5 else 0)]⟩ ∧ vs.length = 10 ∧ vs.all oneV = true ∧ Tb 10 131 114 RSvc m' h tb most (if putFull most xs key then xs else putL xs key v ix rowS0) (if putFull most xs key then last else max last ix)) := by
  obtain ⟨rv, mr, rfl, hd, hr⟩ := ht
  refine FS.enter Go.Proofs.Tryz.func74 rfl rfl fun w0 => ?_
  obtain ⟨tv, rfl, htv⟩ := id hv
  obtain ⟨tA, tc, rfl⟩ := htv.form
  refine J.open hd ?_
  have hlen := hr.len
  obtain ⟨rA, rc, rfl⟩ := hr.form
  refine .seq (.text (.box (cs := [_, _, _, _, _, _, _]) rfl rfl rfl rfl fun b6 => .alloc (cs := [_, _, _, _, _, _, _, _, _, _]) rfl rfl rfl fun b8 => .as_ rfl rfl (.done (.thenN ?_))))
  refine .seq (.seq (.text (.mv rfl rfl (?_))))
  refine .callR rfl rfl (noneSvc hm) rfl rfl (.done (.thenN ?_))
  refine .condF rfl ?_
  refine .skip (.thenN ?_)
  refine .seq (.text (.mv rfl rfl (.mv rfl rfl (?_))))
  refine .callR rfl rfl (atSvc hr hs) rfl rfl (.mv rfl rfl (.ext rfl rfl rfl (.ext rfl rfl rfl (.as_ rfl rfl (.as_ rfl rfl (.done (.thenN ?_)))))))
  refine .seq (.seq (.draw [(0, .pure), (1, .pure), (2, .pure), (3, .pure), (4, .pure), (5, .pure), (6, .read), (7, .pure), (8, .pure), (9, .pure), (10, .pure), (11, .read), (12, .pure), (13, .pure)] rfl (by kernel_rfl) (.mv rfl rfl (.not rfl rfl (.mv rfl rfl (.and (d := 35) (g := 24) _ _ (take_drop 11) rfl rfl (fun hb4_3 => .guard rfl rfl rfl rfl (.mv rfl rfl (.guard rfl rfl rfl rfl (.nilOk rfl rfl (.guard rfl rfl rfl rfl (.fa rfl rfl (.guard rfl rfl rfl rfl (.ld rfl rfl rfl rfl (.guard rfl rfl rfl rfl (.lenT hr rfl rfl rfl (.guard rfl rfl rfl rfl (.mv rfl rfl (.guard rfl rfl rfl rfl (.nilOk rfl rfl (.guard rfl rfl rfl rfl (.fa rfl rfl (.guard rfl rfl rfl rfl (.ld rfl rfl rfl rfl (.guard rfl rfl rfl rfl (.cmp rfl rfl rfl rfl (.pick rfl rfl rfl rfl ((.done (.thenN (.midB rfl))))))))))))))))))))))))) (.guardNo rfl rfl rfl rfl rfl rfl (.guardNo rfl rfl rfl rfl rfl rfl (.guardNo rfl rfl rfl rfl rfl rfl (.guardNo rfl rfl rfl rfl rfl rfl (.guardNo rfl rfl rfl rfl rfl rfl (.guardNo rfl rfl rfl rfl rfl rfl (.guardNo rfl rfl rfl rfl rfl rfl (.guardNo rfl rfl rfl rfl rfl rfl (.guardNo rfl rfl rfl rfl rfl rfl (.guardNo rfl rfl rfl rfl rfl rfl (.pick rfl rfl rfl rfl ((.done (.thenN (.midB rfl))))))))))))))) (.done (.thenN ?_))))))))
  refine .cond rfl (fun hb4 => ?_) (fun hb4 => ?_)
  ·
    refine .seq (.text (.bld [_, _, _, _, _, _, _, _, _, _] rfl (by rfl) rfl ?_))
    refine .stW rfl rfl rfl rfl rfl rfl (.as_ rfl rfl (.done (.thenN ?_)))
    refine .ret (.thenR ?_)
    have hfull : putFull most xs key = true := hb4
    refine J.front 3 rfl (J.front 3 rfl (J.shut fun hd' => ?_))
    refine J.retAT rfl rfl rfl rfl (List.Sublist.cons_cons _ (List.nil_sublist _)) ⟨_, rfl, rfl, _, by rw [hfull]; rfl, rfl, rfl, ?_⟩
    rw [hfull]; exact ⟨_, _, rfl, hd', hr⟩
  ·
    refine .skip (.thenN ?_)
    refine .seq (.text (.mv rfl rfl (.ldW rfl rfl rfl rfl (.mv rfl rfl (.mv rfl rfl (.bld [_, _, _, _, _, _, _, _, _, _] rfl (by rfl) rfl ?_))))))
    refine .alloc (cs := [_, _, _, _, _, _, _, _, _, _]) rfl rfl rfl fun b12 => .stW rfl rfl rfl rfl rfl rfl (.done (.thenN ?_))
    refine J.cut (ι := Value × Hp × Int) (fun i => i.2.2 = (putRow xs key v ix).made ∧ SlT i.2.1 h i.1 10 131 (RRow RSvc) (putL xs key v ix rowS0)) (fun i => [(0, .pointer (some ⟨tb, 0, none⟩)), (3, .int .u64 ix), (8, .pointer (some ⟨b8, 0, none⟩)), (12, .pointer (some ⟨b12, 0, none⟩))]) (fun _ => h) (fun i => [one b12 (.cells ⟨.string key :: ([.int .i64 v.node, .string v.id, .string v.name, .slice tA v.tags.length tc, .int .i64 v.port, .int .u64 v.made, .int .u64 v.ix] ++ [.int .u64 i.2.2, .int .u64 ix])⟩ 131 (0, 0)), one b8 (.cells ⟨[.string ⟨#[]⟩, .int .i64 0, .string ⟨#[]⟩, .string ⟨#[]⟩, .slice none 0 0, .int .i64 0, .int .u64 0, .int .u64 0, .int .u64 0, .int .u64 0]⟩ 131 (0, 0)), one b6 (.cells ⟨[.int .i64 v.node, .string v.id, .string v.name, .slice tA v.tags.length tc, .int .i64 v.port, .int .u64 v.made, .int .u64 v.ix]⟩ 31 (0, 0)), one tb (.cells ⟨[.int .i64 most, i.1, .int .u64 last]⟩ 114 (0, 0)), i.2.1]) ?_ ?_
    ·
      refine .seq (.text (.mv rfl rfl (.done (.thenN ?_))))
      refine .cond rfl (fun hb7 => ?_) (fun hb7 => ?_)
      ·
        have his : atIs xs key = true := by simpa using hb7
        have hk : atK xs key < xs.length := by unfold atIs at his; simp only [Bool.and_eq_true, decide_eq_true_eq] at his; omega
        refine .seq (.text (.mv rfl rfl (.nilOk rfl rfl (.fa rfl rfl (.ld rfl rfl rfl rfl (.mv rfl rfl (.ixT (i := atK xs key) hr rfl rfl rfl hk rfl (.faE rfl (hr.ne (by omega)) rfl (.ldTF (i := atK xs key) (.int .u64 xs[atK xs key].made) hr hk rfl (fun vs e => RRow.fm (n := 7) (fun ws hw => by obtain ⟨tv, rfl, _⟩ := hw; rfl) e) rfl rfl (.fa rfl rfl (.stS rfl rfl rfl rfl (.done (.thenN ?_)))))))))))))
        refine .draw [(0, .pure), (1, .pure), (2, .pure), (3, .read), (4, .pure), (5, .read), (6, .pure), (7, .mut)] rfl (by kernel_rfl) (.mv rfl rfl (.nilOk rfl rfl (.fa rfl rfl (.ld rfl rfl rfl rfl (.mv rfl rfl (.ldW rfl rfl rfl rfl (.ixT (i := atK xs key) hr rfl rfl rfl hk rfl (.stE (z := putRow xs key v ix) hr hk rfl rfl rfl rfl (by rw [show putRow xs key v ix = ⟨key, v, xs[atK xs key].made, ix⟩ from by simp [putRow, his, hk]]; exact ⟨_, rfl, _, rfl, htv⟩) rfl fun m9 hm9 => .done (.thenN ?_)))))))))
        refine J.mid (_, m9, _) ⟨?_, ?_⟩ (.cons rfl (.cons rfl (.cons rfl (.cons rfl (.nil _))))) rfl rfl
        · simp [putRow, his, hk]
        · dsimp only; rw [putL, if_pos his]; exact hm9
      ·
        refine .seq (.text (.mv rfl rfl (.mv rfl rfl (.nilOk rfl rfl (.fa rfl rfl (.ld rfl rfl rfl rfl (.bld [_, _, _, _, _, _, _, _, _, _] rfl (by rfl) rfl ?_)))))))
        refine .bs ([_, _, _, _, _, _, _, _, _, _]) rfl rfl rfl rfl (by decide) rfl rfl rfl fun b65 => ?_
        refine .app1 (R := RRow RSvc) (z := rowS0) rfl hr rfl rfl rfl rfl ⟨_, rfl, _, rfl, SlR.nil _ _ _⟩ (by omega) rfl rfl fun v66 m66 hm66 => ?_
        obtain ⟨A66, c66, rfl⟩ := hm66.form
        have hnis : atIs xs key = false := by simpa using hb7
        have hkl : atK xs key ≤ xs.length := firstN_le _ _
        refine .nilOk rfl rfl (.fa rfl rfl (.stS rfl rfl rfl rfl (.done (.thenN ?_))))
        refine .seq (.draw [(0, .pure), (1, .pure), (2, .pure), (3, .read), (4, .pure), (5, .pure), (6, .pure), (7, .pure), (8, .pure), (9, .pure), (10, .read), (11, .pure), (12, .pure), (13, .mut)] rfl (by kernel_rfl) (.mv rfl rfl (.nilOk rfl rfl (.fa rfl rfl (.ld rfl rfl rfl rfl (.mv rfl rfl (.inc rfl rfl (by unfold maxL at hmax; omega) rfl (.slTail (i := atK xs key + 1) rfl rfl rfl (by simp; omega) rfl (.mv rfl rfl (.nilOk rfl rfl (.fa rfl rfl (.ld rfl rfl rfl rfl (.mv rfl rfl (.slTail (i := atK xs key) rfl rfl rfl (by simp; omega) rfl (.copyUp (i := atK xs key) rfl hm66 (by simp; omega) rfl rfl rfl rfl fun m82 hm82 => .done (.thenN ?_))))))))))))))))
        refine .draw [(0, .pure), (1, .pure), (2, .pure), (3, .read), (4, .pure), (5, .read), (6, .pure), (7, .mut)] rfl (by kernel_rfl) (.mv rfl rfl (.nilOk rfl rfl (.fa rfl rfl (.ld rfl rfl rfl rfl (.mv rfl rfl (.ldW rfl rfl rfl rfl (.ixT (i := atK xs key) hm82 rfl rfl rfl (by rw [upL_len (by simp; omega)]; simp; omega) rfl (.stE (z := putRow xs key v ix) hm82 (by rw [upL_len (by simp; omega)]; simp; omega) rfl rfl rfl rfl (by rw [show putRow xs key v ix = ⟨key, v, ix, ix⟩ from by simp [putRow, hnis]]; exact ⟨_, rfl, _, rfl, htv⟩) rfl fun m12 hm12 => .done (.thenN ?_)))))))))
        refine J.dropF 1 (J.mid (_, m12, ix) ⟨?_, ?_⟩ (.cons rfl (.cons rfl (.cons rfl (.cons rfl (.nil _))))) rfl rfl)
        · simp [putRow, hnis]
        · dsimp only; rw [putL, if_neg (by rw [hnis]; decide)]; exact hm12
    ·
      rintro ⟨rv', mr', md⟩ ⟨hmd, hp⟩
      dsimp only at hmd hp ⊢
      refine J.front 4 rfl (J.front 4 rfl (J.shut fun hd' => ?_))
      refine .seq (.text (.mv rfl rfl (.mv rfl rfl (?_))))
      refine .callM rfl rfl (raiseSvc ⟨_, _, rfl, hd', hp⟩ hm) rfl rfl fun u92 h92 m92 hl92 hu92 => ?_
      obtain ⟨rfl, rfl, ht'⟩ := hu92
      refine .done (.thenN ?_)
      refine .seq (.text (.ldW rfl rfl rfl rfl (.stW rfl rfl rfl rfl rfl rfl (.as_ rfl rfl (.done (.thenN ?_))))))
      refine .ret ?_
      have hfull : putFull most xs key = false := hb4
      refine J.retAT rfl rfl rfl rfl (List.Sublist.cons_cons _ (List.nil_sublist _)) ⟨_, rfl, rfl, _, by rw [hfull]; rfl, rfl, rfl, ?_⟩
      rw [hfull]; exact ht'

theorem putChk {h m : Hp} {tb : Nat} {most last ix : Int} {xs : List (Row Chk)} {key : ByteArray} {v : Chk} {ws : List Value} (ht : Tb 10 93 117 RChk m h tb most xs last) (hs : Srt xs) (hm : most ≠ 0) (hv : RChk h v ws) (hmax : xs.length < maxL) : FM Go.Proofs.Tryz.prog 47 [.pointer (some ⟨tb, 0, none⟩), .string key, .agg ⟨ws⟩, .int .u64 ix] h m (fun u h' m' => h' = h ∧ ∃ vs, u = .tuple ⟨[.agg ⟨vs⟩, .int .i64 (if putFull most xs key then 5 else 0)]⟩ ∧ vs.length = 10 ∧ vs.all oneV = true ∧ Tb 10 93 117 RChk m' h tb most (if putFull most xs key then xs else putL xs key v ix rowC0) (if putFull most xs key then last else max last ix)) := by
  obtain ⟨rv, mr, rfl, hd, hr⟩ := ht
  refine FS.enter Go.Proofs.Tryz.func47 rfl rfl fun w0 => ?_
  obtain rfl := hv
  refine J.open hd ?_
  have hlen := hr.len
  obtain ⟨rA, rc, rfl⟩ := hr.form
  refine .seq (.text (.box (cs := [_, _, _, _, _, _, _]) rfl rfl rfl rfl fun b6 => .alloc (cs := [_, _, _, _, _, _, _, _, _, _]) rfl rfl rfl fun b8 => .as_ rfl rfl (.done (.thenN ?_))))
  refine .seq (.seq (.text (.mv rfl rfl (?_))))
  refine .callR rfl rfl (noneChk hm) rfl rfl (.done (.thenN ?_))
  refine .condF rfl ?_
  refine .skip (.thenN ?_)
  refine .seq (.text (.mv rfl rfl (.mv rfl rfl (?_))))
  refine .callR rfl rfl (atChk hr hs) rfl rfl (.mv rfl rfl (.ext rfl rfl rfl (.ext rfl rfl rfl (.as_ rfl rfl (.as_ rfl rfl (.done (.thenN ?_)))))))
  refine .seq (.seq (.draw [(0, .pure), (1, .pure), (2, .pure), (3, .pure), (4, .pure), (5, .pure), (6, .read), (7, .pure), (8, .pure), (9, .pure), (10, .pure), (11, .read), (12, .pure), (13, .pure)] rfl (by kernel_rfl) (.mv rfl rfl (.not rfl rfl (.mv rfl rfl (.and (d := 35) (g := 24) _ _ (take_drop 11) rfl rfl (fun hb4_3 => .guard rfl rfl rfl rfl (.mv rfl rfl (.guard rfl rfl rfl rfl (.nilOk rfl rfl (.guard rfl rfl rfl rfl (.fa rfl rfl (.guard rfl rfl rfl rfl (.ld rfl rfl rfl rfl (.guard rfl rfl rfl rfl (.lenT hr rfl rfl rfl (.guard rfl rfl rfl rfl (.mv rfl rfl (.guard rfl rfl rfl rfl (.nilOk rfl rfl (.guard rfl rfl rfl rfl (.fa rfl rfl (.guard rfl rfl rfl rfl (.ld rfl rfl rfl rfl (.guard rfl rfl rfl rfl (.cmp rfl rfl rfl rfl (.pick rfl rfl rfl rfl ((.done (.thenN (.midB rfl))))))))))))))))))))))))) (.guardNo rfl rfl rfl rfl rfl rfl (.guardNo rfl rfl rfl rfl rfl rfl (.guardNo rfl rfl rfl rfl rfl rfl (.guardNo rfl rfl rfl rfl rfl rfl (.guardNo rfl rfl rfl rfl rfl rfl (.guardNo rfl rfl rfl rfl rfl rfl (.guardNo rfl rfl rfl rfl rfl rfl (.guardNo rfl rfl rfl rfl rfl rfl (.guardNo rfl rfl rfl rfl rfl rfl (.guardNo rfl rfl rfl rfl rfl rfl (.pick rfl rfl rfl rfl ((.done (.thenN (.midB rfl))))))))))))))) (.done (.thenN ?_))))))))
  refine .cond rfl (fun hb4 => ?_) (fun hb4 => ?_)
  ·
    refine .seq (.text (.bld [_, _, _, _, _, _, _, _, _, _] rfl (by rfl) rfl ?_))
    refine .stW rfl rfl rfl rfl rfl rfl (.as_ rfl rfl (.done (.thenN ?_)))
    refine .ret (.thenR ?_)
    have hfull : putFull most xs key = true := hb4
    refine J.front 3 rfl (J.front 3 rfl (J.shut fun hd' => ?_))
    refine J.retAT rfl rfl rfl rfl (List.Sublist.cons_cons _ (List.nil_sublist _)) ⟨_, rfl, rfl, _, by rw [hfull]; rfl, rfl, rfl, ?_⟩
    rw [hfull]; exact ⟨_, _, rfl, hd', hr⟩
  ·
    refine .skip (.thenN ?_)
    refine .seq (.text (.mv rfl rfl (.ldW rfl rfl rfl rfl (.mv rfl rfl (.mv rfl rfl (.bld [_, _, _, _, _, _, _, _, _, _] rfl (by rfl) rfl ?_))))))
    refine .alloc (cs := [_, _, _, _, _, _, _, _, _, _]) rfl rfl rfl fun b12 => .stW rfl rfl rfl rfl rfl rfl (.done (.thenN ?_))
    refine J.cut (ι := Value × Hp × Int) (fun i => i.2.2 = (putRow xs key v ix).made ∧ SlT i.2.1 h i.1 10 93 (RRow RChk) (putL xs key v ix rowC0)) (fun i => [(0, .pointer (some ⟨tb, 0, none⟩)), (3, .int .u64 ix), (8, .pointer (some ⟨b8, 0, none⟩)), (12, .pointer (some ⟨b12, 0, none⟩))]) (fun _ => h) (fun i => [one b12 (.cells ⟨.string key :: ([.int .i64 v.node, .string v.id, .string v.service, .string v.note, .int .i64 v.status, .int .u64 v.made, .int .u64 v.ix] ++ [.int .u64 i.2.2, .int .u64 ix])⟩ 93 (0, 0)), one b8 (.cells ⟨[.string ⟨#[]⟩, .int .i64 0, .string ⟨#[]⟩, .string ⟨#[]⟩, .string ⟨#[]⟩, .int .i64 0, .int .u64 0, .int .u64 0, .int .u64 0, .int .u64 0]⟩ 93 (0, 0)), one b6 (.cells ⟨[.int .i64 v.node, .string v.id, .string v.service, .string v.note, .int .i64 v.status, .int .u64 v.made, .int .u64 v.ix]⟩ 33 (0, 0)), one tb (.cells ⟨[.int .i64 most, i.1, .int .u64 last]⟩ 117 (0, 0)), i.2.1]) ?_ ?_
    ·
      refine .seq (.text (.mv rfl rfl (.done (.thenN ?_))))
      refine .cond rfl (fun hb7 => ?_) (fun hb7 => ?_)
      ·
        have his : atIs xs key = true := by simpa using hb7
        have hk : atK xs key < xs.length := by unfold atIs at his; simp only [Bool.and_eq_true, decide_eq_true_eq] at his; omega
        refine .seq (.text (.mv rfl rfl (.nilOk rfl rfl (.fa rfl rfl (.ld rfl rfl rfl rfl (.mv rfl rfl (.ixT (i := atK xs key) hr rfl rfl rfl hk rfl (.faE rfl (hr.ne (by omega)) rfl (.ldTF (i := atK xs key) (.int .u64 xs[atK xs key].made) hr hk rfl (fun vs e => RRow.fm (n := 7) (fun ws hw => by obtain rfl := hw; rfl) e) rfl rfl (.fa rfl rfl (.stS rfl rfl rfl rfl (.done (.thenN ?_)))))))))))))
        refine .draw [(0, .pure), (1, .pure), (2, .pure), (3, .read), (4, .pure), (5, .read), (6, .pure), (7, .mut)] rfl (by kernel_rfl) (.mv rfl rfl (.nilOk rfl rfl (.fa rfl rfl (.ld rfl rfl rfl rfl (.mv rfl rfl (.ldW rfl rfl rfl rfl (.ixT (i := atK xs key) hr rfl rfl rfl hk rfl (.stE (z := putRow xs key v ix) hr hk rfl rfl rfl rfl (by rw [show putRow xs key v ix = ⟨key, v, xs[atK xs key].made, ix⟩ from by simp [putRow, his, hk]]; exact ⟨_, rfl, rfl⟩) rfl fun m9 hm9 => .done (.thenN ?_)))))))))
        refine J.mid (_, m9, _) ⟨?_, ?_⟩ (.cons rfl (.cons rfl (.cons rfl (.cons rfl (.nil _))))) rfl rfl
        · simp [putRow, his, hk]
        · dsimp only; rw [putL, if_pos his]; exact hm9
      ·
        refine .seq (.text (.mv rfl rfl (.mv rfl rfl (.nilOk rfl rfl (.fa rfl rfl (.ld rfl rfl rfl rfl (.bld [_, _, _, _, _, _, _, _, _, _] rfl (by rfl) rfl ?_)))))))
        refine .bs ([_, _, _, _, _, _, _, _, _, _]) rfl rfl rfl rfl (by decide) rfl rfl rfl fun b65 => ?_
        refine .app1 (R := RRow RChk) (z := rowC0) rfl hr rfl rfl rfl rfl ⟨_, rfl, rfl⟩ (by omega) rfl rfl fun v66 m66 hm66 => ?_
        obtain ⟨A66, c66, rfl⟩ := hm66.form
        have hnis : atIs xs key = false := by simpa using hb7
        have hkl : atK xs key ≤ xs.length := firstN_le _ _
        refine .nilOk rfl rfl (.fa rfl rfl (.stS rfl rfl rfl rfl (.done (.thenN ?_))))
        refine .seq (.draw [(0, .pure), (1, .pure), (2, .pure), (3, .read), (4, .pure), (5, .pure), (6, .pure), (7, .pure), (8, .pure), (9, .pure), (10, .read), (11, .pure), (12, .pure), (13, .mut)] rfl (by kernel_rfl) (.mv rfl rfl (.nilOk rfl rfl (.fa rfl rfl (.ld rfl rfl rfl rfl (.mv rfl rfl (.inc rfl rfl (by unfold maxL at hmax; omega) rfl (.slTail (i := atK xs key + 1) rfl rfl rfl (by simp; omega) rfl (.mv rfl rfl (.nilOk rfl rfl (.fa rfl rfl (.ld rfl rfl rfl rfl (.mv rfl rfl (.slTail (i := atK xs key) rfl rfl rfl (by simp; omega) rfl (.copyUp (i := atK xs key) rfl hm66 (by simp; omega) rfl rfl rfl rfl fun m82 hm82 => .done (.thenN ?_))))))))))))))))
        refine .draw [(0, .pure), (1, .pure), (2, .pure), (3, .read), (4, .pure), (5, .read), (6, .pure), (7, .mut)] rfl (by kernel_rfl) (.mv rfl rfl (.nilOk rfl rfl (.fa rfl rfl (.ld rfl rfl rfl rfl (.mv rfl rfl (.ldW rfl rfl rfl rfl (.ixT (i := atK xs key) hm82 rfl rfl rfl (by rw [upL_len (by simp; omega)]; simp; omega) rfl (.stE (z := putRow xs key v ix) hm82 (by rw [upL_len (by simp; omega)]; simp; omega) rfl rfl rfl rfl (by rw [show putRow xs key v ix = ⟨key, v, ix, ix⟩ from by simp [putRow, hnis]]; exact ⟨_, rfl, rfl⟩) rfl fun m12 hm12 => .done (.thenN ?_)))))))))
        refine J.dropF 1 (J.mid (_, m12, ix) ⟨?_, ?_⟩ (.cons rfl (.cons rfl (.cons rfl (.cons rfl (.nil _))))) rfl rfl)
        · simp [putRow, hnis]
        · dsimp only; rw [putL, if_neg (by rw [hnis]; decide)]; exact hm12
    ·
      rintro ⟨rv', mr', md⟩ ⟨hmd, hp⟩
      dsimp only at hmd hp ⊢
      refine J.front 4 rfl (J.front 4 rfl (J.shut fun hd' => ?_))
      refine .seq (.text (.mv rfl rfl (.mv rfl rfl (?_))))
      refine .callM rfl rfl (raiseChk ⟨_, _, rfl, hd', hp⟩ hm) rfl rfl fun u92 h92 m92 hl92 hu92 => ?_
      obtain ⟨rfl, rfl, ht'⟩ := hu92
      refine .done (.thenN ?_)
      refine .seq (.text (.ldW rfl rfl rfl rfl (.stW rfl rfl rfl rfl rfl rfl (.as_ rfl rfl (.done (.thenN ?_))))))
      refine .ret ?_
      have hfull : putFull most xs key = false := hb4
      refine J.retAT rfl rfl rfl rfl (List.Sublist.cons_cons _ (List.nil_sublist _)) ⟨_, rfl, rfl, _, by rw [hfull]; rfl, rfl, rfl, ?_⟩
      rw [hfull]; exact ht'
end Go.Sod
