/-
  Node, Service and Check, walked. Conditions: none.
-/
import Derived.Test.YtemcklmfpapmpaaGreatR4
namespace Go.Sod
set_option linter.unusedVariables false
set_option linter.unusedSimpArgs false
set_option maxRecDepth 10000
set_option maxHeartbeats 4000000

def svcV (x : Svc) (tv : Value) : List Value := [.int .i64 x.node, .string x.id, .string x.name, tv, .int .i64 x.port, .int .u64 x.made, .int .u64 x.ix]
def chkV (x : Chk) : List Value := [.int .i64 x.node, .string x.id, .string x.service, .string x.note, .int .i64 x.status, .int .u64 x.made, .int .u64 x.ix]
/-- a roster -/
structure Rst where
  most : Int
  n : List (Row Nod)
  s : List (Row Svc)
  c : List (Row Chk)
  l0 : Int
  l1 : Int
  l2 : Int
structure RWf (R : Rst) : Prop where
  m1 : 1 ≤ R.most
  m2 : R.most ≤ 64
  sn : Srt R.n
  ss : Srt R.s
  sc : Srt R.c
  ln : R.n.length ≤ 64
  ls : R.s.length ≤ 64
  lc : R.c.length ≤ 64
theorem RWf.ne {R : Rst} (w : RWf R) : R.most ≠ 0 := by have := w.m1; omega
def rosV (t0 t1 t2 : Nat) : List Value := [.pointer (some ⟨t0, 0, none⟩), .pointer (some ⟨t1, 0, none⟩), .pointer (some ⟨t2, 0, none⟩)]
def Ro (m h : Hp) (rp : Nat) (R : Rst) : Prop := ∃ t0 t1 t2 m0 m1 m2, h rp = some (.cells ⟨rosV t0 t1 t2⟩ 66 (0, 0)) ∧ m = m0.un (m1.un m2) ∧ m0.dis (m1.un m2) ∧ m1.dis m2 ∧ Tb 7 119 111 RNod m0 h t0 R.most R.n R.l0 ∧ Tb 10 131 114 RSvc m1 h t1 R.most R.s R.l1 ∧ Tb 10 93 117 RChk m2 h t2 R.most R.c R.l2
theorem Ro.mono {m h h' : Hp} {rp : Nat} {R : Rst} (t : Ro m h rp R) (l : h.le h') : Ro m h' rp R := by
  obtain ⟨t0, t1, t2, m0, m1, m2, hb, rfl, d0, d1, a, b, c⟩ := t
  exact ⟨t0, t1, t2, m0, m1, m2, l _ _ hb, rfl, d0, d1, a.mono RNod.mono l, b.mono RSvc.mono l, c.mono RChk.mono l⟩
def errS (xs : List (Row Nod)) (s : Svc) : Int := if ((!rightN s.node || decide (s.port < 0)) || decide (65535 < s.port)) = true then 2 else if ((!nameB s.id || !nameB s.name) || !tagsB s.tags) = true then 10 else if (!thereB xs s.node) = true then 4 else 0
theorem errS_ok {xs : List (Row Nod)} {s : Svc} (h : errS xs s = 0) : rightN s.node = true ∧ 0 ≤ s.port ∧ s.port ≤ 65535 ∧ nameB s.id = true ∧ nameB s.name = true ∧ tagsB s.tags = true ∧ thereB xs s.node = true := by
  unfold errS at h
  split at h; · cases h
  split at h; · cases h
  split at h; · cases h
  rename_i h1 h2 h3
  simp only [Bool.or_eq_true, Bool.not_eq_true', decide_eq_true_eq, not_or, Bool.not_eq_false] at h1 h2 h3
  exact ⟨h1.1.1, by omega, by omega, h2.1.1, h2.1.2, h2.2, h3⟩
def errC (ns : List (Row Nod)) (ss : List (Row Svc)) (c : Chk) : Int := if ((!rightN c.node || decide (c.status < 0)) || decide (3 < c.status)) = true then 2 else if (!nameB c.id || (!decide (c.service = ⟨#[]⟩) && !nameB c.service)) = true then 10 else if decide (32 < (c.note.size : Int)) = true then 3 else if (!thereB ns c.node) = true then 4 else if (!decide (c.service = ⟨#[]⟩) && !atIs ss (keyS c.node c.service)) = true then 4 else 0
theorem errC_ok {ns : List (Row Nod)} {ss : List (Row Svc)} {c : Chk} (h : errC ns ss c = 0) : rightN c.node = true ∧ 0 ≤ c.status ∧ c.status ≤ 3 ∧ nameB c.id = true ∧ (c.service = ⟨#[]⟩ ∨ nameB c.service = true) ∧ c.note.size ≤ 32 ∧ thereB ns c.node = true ∧ (c.service = ⟨#[]⟩ ∨ atIs ss (keyS c.node c.service) = true) := by
  unfold errC at h
  split at h; · cases h
  split at h; · cases h
  split at h; · cases h
  split at h; · cases h
  split at h; · cases h
  rename_i h1 h2 h3 h4 h5
  simp only [Bool.or_eq_true, Bool.and_eq_true, Bool.not_eq_true', decide_eq_true_eq, decide_eq_false_iff_not, not_or, not_and, Bool.not_eq_false] at h1 h2 h3 h4 h5
  refine ⟨h1.1.1, by omega, by omega, h2.1, ?_, by omega, h4, ?_⟩
  · by_cases e : c.service = ⟨#[]⟩
    · exact .inl e
    · exact .inr (h2.2 e)
  · by_cases e : c.service = ⟨#[]⟩
    · exact .inl e
    · exact .inr (h5 e)
structure SvcSm (s : Svc) : Prop where
  id : s.id.size ≤ maxL
  nm : s.name.size ≤ maxL
  tg : ∀ x, x ∈ s.tags → x.size ≤ maxL
structure ChkSm (c : Chk) : Prop where
  id : c.id.size ≤ maxL
  sv : c.service.size ≤ maxL
def nodeE (R : Rst) (n : Int) (addr : ByteArray) : Int := if (!rightN n) = true then 2 else if decide (32 < (addr.size : Int)) = true then 3 else if putFull R.most R.n (digitS n) = true then 5 else 0
def nodeR (R : Rst) (n : Int) (addr : ByteArray) (ix : Int) : Rst := if (!rightN n) = true then R else if decide (32 < (addr.size : Int)) = true then R else { R with n := if putFull R.most R.n (digitS n) then R.n else putL R.n (digitS n) ⟨n, addr, 0, 0⟩ ix rowN0, l0 := if putFull R.most R.n (digitS n) then R.l0 else max R.l0 ix }
def svcE (R : Rst) (s : Svc) : Int := if errS R.n s = 0 then (if putFull R.most R.s (keyS s.node s.id) = true then 5 else 0) else errS R.n s
def svcR (R : Rst) (s : Svc) (ix : Int) : Rst := if errS R.n s = 0 then { R with s := if putFull R.most R.s (keyS s.node s.id) then R.s else putL R.s (keyS s.node s.id) s ix rowS0, l1 := if putFull R.most R.s (keyS s.node s.id) then R.l1 else max R.l1 ix } else R
def chkE (R : Rst) (c : Chk) : Int := if errC R.n R.s c = 0 then (if putFull R.most R.c (keyS c.node c.id) = true then 5 else 0) else errC R.n R.s c
def chkR (R : Rst) (c : Chk) (ix : Int) : Rst := if errC R.n R.s c = 0 then { R with c := if putFull R.most R.c (keyS c.node c.id) then R.c else putL R.c (keyS c.node c.id) c ix rowC0, l2 := if putFull R.most R.c (keyS c.node c.id) then R.l2 else max R.l2 ix } else R

theorem wserv_walk {rp t0 t1 t2 : Nat} {rv : Value} {most last : Int} {h mr : Hp} {F : Hp → List Hp} {L : List Hp} {xs : List (Row Nod)} [At h L rp (.cells ⟨[.pointer (some ⟨t0, 0, none⟩), .pointer (some ⟨t1, 0, none⟩), .pointer (some ⟨t2, 0, none⟩)]⟩ 66 (0, 0))] [At h L t0 (.cells ⟨[.int .i64 most, rv, .int .u64 last]⟩ 111 (0, 0))] [HpIn L mr F] (hr : SlT mr h rv 7 119 (RRow RNod) xs) (hs : Srt xs) (hm : most ≠ 0) {s : Svc} {tv : Value} (ht : SlR h 1 RS tv s.tags) (sm : SvcSm s) : FR Go.Proofs.Tryz.prog 73 [.pointer (some ⟨rp, 0, none⟩), .agg ⟨svcV s tv⟩] h L (.int .i64 (errS xs s)) := by
  refine FS.enter Go.Proofs.Tryz.func73 rfl rfl fun w0 => ?_
  obtain ⟨tA, tc, rfl⟩ := ht.form
  refine .seq (.text (.box (cs := [_, _, _, _, _, _, _]) rfl rfl rfl rfl fun b3 => .as_ rfl rfl (.done (.thenN ?_))))
  refine .seq (.block (.seq (.text (.fa rfl rfl (.ld rfl rfl rfl rfl (?_))))))
  refine .callV rfl rfl right_walk rfl rfl (.not rfl rfl (.mv rfl rfl (.or (d := 14) (g := 10) _ _ (take_drop 4) rfl rfl (fun hb1_5 => .guard rfl rfl rfl rfl (.fa rfl rfl (.guard rfl rfl rfl rfl (.ld rfl rfl rfl rfl (.guard rfl rfl rfl rfl (.cmp rfl rfl rfl rfl (.pick rfl rfl rfl rfl ((.done (.thenN (.midB rfl))))))))))) (.guardNo rfl rfl rfl rfl rfl rfl (.guardNo rfl rfl rfl rfl rfl rfl (.guardNo rfl rfl rfl rfl rfl rfl (.pick rfl rfl rfl rfl ((.done (.thenN (.midB rfl)))))))) (.mv rfl rfl (.or (d := 19) (g := 15) _ _ (take_drop 4) rfl rfl (fun hb1_10 => .guard rfl rfl rfl rfl (.fa rfl rfl (.guard rfl rfl rfl rfl (.ld rfl rfl rfl rfl (.guard rfl rfl rfl rfl (.cmp rfl rfl rfl rfl (.pick rfl rfl rfl rfl ((.done (.thenN (.midB rfl))))))))))) (.guardNo rfl rfl rfl rfl rfl rfl (.guardNo rfl rfl rfl rfl rfl rfl (.guardNo rfl rfl rfl rfl rfl rfl (.pick rfl rfl rfl rfl ((.done (.thenN (.midB rfl)))))))) (.as_ rfl rfl (.done (.thenN ?_))))))))
  refine .cond rfl (fun hb1 => ?_) (fun hb1 => ?_)
  ·
    refine .seq (.text (.as_ rfl rfl (.done (.thenN ?_))))
    refine .ret (.blkR (.thenR ?_))
    exact J.retR rfl (by rw [errS, if_pos hb1]; rfl) (.cons _ (List.Sublist.refl _))
  ·
    refine .seq (.text (.fa rfl rfl (.ld rfl rfl rfl rfl (?_))))
    refine .callV rfl rfl (nright_walk sm.id) rfl rfl (.not rfl rfl (.mv rfl rfl (.or (d := 30) (g := 25) _ _ (take_drop 5) rfl rfl (fun hb3_5 => .guard rfl rfl rfl rfl (.fa rfl rfl (.guard rfl rfl rfl rfl (.ld rfl rfl rfl rfl (.guard rfl rfl rfl rfl (.callV rfl rfl (nright_walk sm.nm) rfl rfl (.guard rfl rfl rfl rfl (.not rfl rfl (.pick rfl rfl rfl rfl ((.done (.thenN (.midB rfl))))))))))))) (.guardNo rfl rfl rfl rfl rfl rfl (.guardNo rfl rfl rfl rfl rfl rfl (.guardNo rfl rfl rfl rfl rfl rfl (.guardNo rfl rfl rfl rfl rfl rfl (.pick rfl rfl rfl rfl ((.done (.thenN (.midB rfl))))))))) (.mv rfl rfl (.or (d := 36) (g := 31) _ _ (take_drop 5) rfl rfl (fun hb3_11 => .guard rfl rfl rfl rfl (.fa rfl rfl (.guard rfl rfl rfl rfl (.ld rfl rfl rfl rfl (.guard rfl rfl rfl rfl (.callV rfl rfl (ntags_walk ht sm.tg) rfl rfl (.guard rfl rfl rfl rfl (.not rfl rfl (.pick rfl rfl rfl rfl ((.done (.thenN (.midB rfl))))))))))))) (.guardNo rfl rfl rfl rfl rfl rfl (.guardNo rfl rfl rfl rfl rfl rfl (.guardNo rfl rfl rfl rfl rfl rfl (.guardNo rfl rfl rfl rfl rfl rfl (.pick rfl rfl rfl rfl ((.done (.thenN (.midB rfl))))))))) (.as_ rfl rfl (.done (.thenN ?_))))))))
    refine .cond rfl (fun hb3 => ?_) (fun hb3 => ?_)
    ·
      refine .seq (.text (.as_ rfl rfl (.done (.thenN ?_))))
      refine .ret (.blkR (.thenR ?_))
      exact J.retR rfl (by rw [errS, if_neg (ifn hb1), if_pos hb3]; rfl) (.cons _ (List.Sublist.refl _))
    ·
      refine .seq (.text (.mv rfl rfl (.fa rfl rfl (.ld rfl rfl rfl rfl (?_)))))
      refine .callR rfl rfl (there_walk hr hs hm) rfl rfl (.not rfl rfl (.as_ rfl rfl (.done (.thenN ?_))))
      refine .cond rfl (fun hb5 => ?_) (fun hb5 => ?_)
      ·
        refine .seq (.text (.as_ rfl rfl (.done (.thenN ?_))))
        refine .ret (.blkR (.thenR ?_))
        exact J.retR rfl (by rw [errS, if_neg (ifn hb1), if_neg (ifn hb3), if_pos hb5]; rfl) (.cons _ (List.Sublist.refl _))
      ·
        refine .skip (.blkN (.thenN ?_))
        refine .seq (.text (.as_ rfl rfl (.done (.thenN ?_))))
        refine .ret ?_
        exact J.retR rfl (by rw [errS, if_neg (ifn hb1), if_neg (ifn hb3), if_neg (ifn hb5)]; rfl) (.cons _ (List.Sublist.refl _))

theorem wchk_walk {rp t0 t1 t2 : Nat} {rv : Value} {most last : Int} {h mr : Hp} {F : Hp → List Hp} {L : List Hp} {xs : List (Row Nod)} {rv' : Value} {most' last' : Int} {mr' : Hp} {F' : Hp → List Hp} {ys : List (Row Svc)} [At h L rp (.cells ⟨[.pointer (some ⟨t0, 0, none⟩), .pointer (some ⟨t1, 0, none⟩), .pointer (some ⟨t2, 0, none⟩)]⟩ 66 (0, 0))] [At h L t0 (.cells ⟨[.int .i64 most, rv, .int .u64 last]⟩ 111 (0, 0))] [HpIn L mr F] [At h L t1 (.cells ⟨[.int .i64 most', rv', .int .u64 last']⟩ 114 (0, 0))] [HpIn L mr' F'] (hr : SlT mr h rv 7 119 (RRow RNod) xs) (hs : Srt xs) (hm : most ≠ 0) (hr' : SlT mr' h rv' 10 131 (RRow RSvc) ys) (hs' : Srt ys) (hm' : most' ≠ 0) {c : Chk} (sm : ChkSm c) : FR Go.Proofs.Tryz.prog 46 [.pointer (some ⟨rp, 0, none⟩), .agg ⟨chkV c⟩] h L (.int .i64 (errC xs ys c)) := by
  refine FS.enter Go.Proofs.Tryz.func46 rfl rfl fun w0 => ?_
  refine .seq (.text (.box (cs := [_, _, _, _, _, _, _]) rfl rfl rfl rfl fun b3 => .as_ rfl rfl (.done (.thenN ?_))))
  refine .seq (.block (.seq (.text (.fa rfl rfl (.ld rfl rfl rfl rfl (?_))))))
  refine .callV rfl rfl right_walk rfl rfl (.not rfl rfl (.mv rfl rfl (.or (d := 16) (g := 12) _ _ (take_drop 4) rfl rfl (fun hb1_5 => .guard rfl rfl rfl rfl (.fa rfl rfl (.guard rfl rfl rfl rfl (.ld rfl rfl rfl rfl (.guard rfl rfl rfl rfl (.cmp rfl rfl rfl rfl (.pick rfl rfl rfl rfl ((.done (.thenN (.midB rfl))))))))))) (.guardNo rfl rfl rfl rfl rfl rfl (.guardNo rfl rfl rfl rfl rfl rfl (.guardNo rfl rfl rfl rfl rfl rfl (.pick rfl rfl rfl rfl ((.done (.thenN (.midB rfl)))))))) (.mv rfl rfl (.or (d := 21) (g := 17) _ _ (take_drop 4) rfl rfl (fun hb1_10 => .guard rfl rfl rfl rfl (.fa rfl rfl (.guard rfl rfl rfl rfl (.ld rfl rfl rfl rfl (.guard rfl rfl rfl rfl (.cmp rfl rfl rfl rfl (.pick rfl rfl rfl rfl ((.done (.thenN (.midB rfl))))))))))) (.guardNo rfl rfl rfl rfl rfl rfl (.guardNo rfl rfl rfl rfl rfl rfl (.guardNo rfl rfl rfl rfl rfl rfl (.pick rfl rfl rfl rfl ((.done (.thenN (.midB rfl)))))))) (.as_ rfl rfl (.done (.thenN ?_))))))))
  refine .cond rfl (fun hb1 => ?_) (fun hb1 => ?_)
  ·
    refine .seq (.text (.as_ rfl rfl (.done (.thenN ?_))))
    refine .ret (.blkR (.thenR ?_))
    exact J.retR rfl (by rw [errC, if_pos hb1]; rfl) (.cons _ (List.Sublist.refl _))
  ·
    have h0 : rightN c.node = true := by simp only [Bool.or_eq_false_iff, Bool.not_eq_false'] at hb1; exact hb1.1.1
    refine .seq (.text (.fa rfl rfl (.ld rfl rfl rfl rfl (?_))))
    refine .callV rfl rfl (nright_walk sm.id) rfl rfl (.not rfl rfl (.mv rfl rfl (.or (d := 37) (g := 27) _ _ (take_drop 10) rfl rfl (fun hb3_5 => .guard rfl rfl rfl rfl (.fa rfl rfl (.guard rfl rfl rfl rfl (.ld rfl rfl rfl rfl (.guard rfl rfl rfl rfl (.cmpS rfl rfl rfl rfl (.guard rfl rfl rfl rfl (.mv rfl rfl (.and (d := 36) (g := 31) _ _ (take_drop 5) rfl rfl (fun hb3_9 => .guard rfl rfl rfl rfl (.fa rfl rfl (.guard rfl rfl rfl rfl (.ld rfl rfl rfl rfl (.guard rfl rfl rfl rfl (.callV rfl rfl (nright_walk sm.sv) rfl rfl (.guard rfl rfl rfl rfl (.not rfl rfl (.guard rfl rfl rfl rfl (.pick rfl rfl rfl rfl ((.done (.thenN (.midB rfl)))))))))))))) (.guardNo rfl rfl rfl rfl rfl rfl (.guardNo rfl rfl rfl rfl rfl rfl (.guardNo rfl rfl rfl rfl rfl rfl (.guardNo rfl rfl rfl rfl rfl rfl (.guard rfl rfl rfl rfl (.pick rfl rfl rfl rfl ((.done (.thenN (.midB rfl)))))))))) (.pick rfl rfl rfl rfl ((.done (.thenN (.midB rfl)))))))))))))) (.guardNo rfl rfl rfl rfl rfl rfl (.guardNo rfl rfl rfl rfl rfl rfl (.guardNo rfl rfl rfl rfl rfl rfl (.guardNo rfl rfl rfl rfl rfl rfl (.guardU rfl rfl rfl rfl rfl (.guardU rfl rfl rfl rfl rfl (.guardU rfl rfl rfl rfl rfl (.guardU rfl rfl rfl rfl rfl (.guardNo rfl rfl rfl rfl rfl rfl (.pick rfl rfl rfl rfl ((.done (.thenN (.midB rfl)))))))))))))) (.as_ rfl rfl (.done (.thenN ?_))))))
    refine .cond rfl (fun hb3 => ?_) (fun hb3 => ?_)
    ·
      refine .seq (.text (.as_ rfl rfl (.done (.thenN ?_))))
      refine .ret (.blkR (.thenR ?_))
      exact J.retR rfl (by rw [errC, if_neg (ifn hb1), if_pos hb3]; rfl) (.cons _ (List.Sublist.refl _))
    ·
      refine .seq (.text (.fa rfl rfl (.ld rfl rfl rfl rfl (.lenS rfl rfl rfl (.cmp rfl rfl rfl rfl (.as_ rfl rfl (.done (.thenN ?_))))))))
      refine .cond rfl (fun hb5 => ?_) (fun hb5 => ?_)
      ·
        refine .seq (.text (.as_ rfl rfl (.done (.thenN ?_))))
        refine .ret (.blkR (.thenR ?_))
        exact J.retR rfl (by rw [errC, if_neg (ifn hb1), if_neg (ifn hb3), if_pos hb5]; rfl) (.cons _ (List.Sublist.refl _))
      ·
        refine .seq (.text (.mv rfl rfl (.fa rfl rfl (.ld rfl rfl rfl rfl (?_)))))
        refine .callR rfl rfl (there_walk hr hs hm) rfl rfl (.not rfl rfl (.as_ rfl rfl (.done (.thenN ?_))))
        refine .cond rfl (fun hb7 => ?_) (fun hb7 => ?_)
        ·
          refine .seq (.text (.as_ rfl rfl (.done (.thenN ?_))))
          refine .ret (.blkR (.thenR ?_))
          exact J.retR rfl (by rw [errC, if_neg (ifn hb1), if_neg (ifn hb3), if_neg (ifn hb5), if_pos hb7]; rfl) (.cons _ (List.Sublist.refl _))
        ·
          refine .skip (.blkN (.thenN ?_))
          refine .seq (?_)
          refine J.cut (ι := Unit) (fun _ => True) (fun _ => [(3, .pointer (some ⟨b3, 0, none⟩)), (6, .bool (atIs ys (keyS c.node c.service)))]) (fun _ => h) (fun _ => one b3 (.cells ⟨chkV c⟩ 33 (0, 0)) :: L) ?_ ?_
          ·
            refine .tree2 (.seq [(0, .pure), (1, .pure), (2, .pure), (3, .read), (4, .pure), (5, .read), (6, .pure), (7, .read)] (.both (.seq [(8, .grow)] (.both (.seq [(9, .grow), (10, .pure), (11, .pure), (12, .pure), (13, .grow), (14, .mut), (15, .pure)] .nil) (.seq [(13, .grow), (9, .grow), (10, .pure), (11, .pure), (12, .pure), (14, .mut), (15, .pure)] .nil))) (.seq [(13, .grow), (8, .grow), (9, .grow), (10, .pure), (11, .pure), (12, .pure), (14, .mut), (15, .pure)] .nil))) [65532, 65528, 65521, 48627, 65487, 48847, 65343, 48703, 0, 0, 57855, 46079, 27647, 0, 0, 28671] [0, 1, 2, 4, 0, 16, 0, 64, 160, 264, 512, 1024, 1024, 0, 12287, 32767] [56846, 56844, 56840, 56832, 57120, 57088, 57216, 57088, 56832, 56320, 55296, 49152, 32768, 49152, 32768, 0] [.pure, .pure, .pure, .read, .pure, .read, .pure, .read, .grow, .grow, .pure, .pure, .pure, .grow, .mut, .pure] rfl (by kernel_rfl) (by kernel_rfl) ?_
            refine .tSeq (.mv rfl rfl (.nilOk rfl rfl (.fa rfl rfl (.ld rfl rfl rfl rfl (.fa rfl rfl (.ld rfl rfl rfl rfl (.fa rfl rfl (.ld rfl rfl rfl rfl (.done (.thenN ?_))))))))))
            refine .tBoth ?_ ?_
            ·
              refine .tSeq (.callV rfl rfl (key_walk h0 sm.sv) rfl rfl (.done (.thenN ?_)))
              refine .tBoth ?_ ?_
              ·
                refine .tSeq (.callRx rfl rfl (getSvc hr' hs' hm') rfl rfl fun u59 hu59 => ?_)
                obtain ⟨vs59, rfl, hl59, ho59, _⟩ := hu59
                refine .mv rfl rfl (.ext rfl rfl rfl (.ext rfl rfl rfl (.alloc (cs := [_, _, _, _, _, _, _, _, _, _]) rfl rfl rfl fun b5 => .stW rfl rfl ho59 rfl (by rw [hl59]; rfl) rfl (.as_ rfl rfl (.done (.thenN ?_))))))
                refine .tNil (.thenN ?_)
                exact J.dropF 1 (J.mid () trivial (.cons rfl (.cons rfl (.nil _))) rfl rfl)
              refine .tSeq (.alloc (cs := [_, _, _, _, _, _, _, _, _, _]) rfl rfl rfl fun b5 => ?_)
              refine .callRx rfl rfl (getSvc hr' hs' hm') rfl rfl fun u59 hu59 => ?_
              obtain ⟨vs59, rfl, hl59, ho59, _⟩ := hu59
              refine .mv rfl rfl (.ext rfl rfl rfl (.ext rfl rfl rfl (.stW rfl rfl ho59 rfl (by rw [hl59]; rfl) rfl (.as_ rfl rfl (.done (.thenN ?_))))))
              refine .tNil (.thenN ?_)
              exact J.dropF 1 (J.mid () trivial (.cons rfl (.cons rfl (.nil _))) rfl rfl)
            refine .tSeq (.alloc (cs := [_, _, _, _, _, _, _, _, _, _]) rfl rfl rfl fun b5 => ?_)
            refine .callV rfl rfl (key_walk h0 sm.sv) rfl rfl (?_)
            refine .callRx rfl rfl (getSvc hr' hs' hm') rfl rfl fun u59 hu59 => ?_
            obtain ⟨vs59, rfl, hl59, ho59, _⟩ := hu59
            refine .mv rfl rfl (.ext rfl rfl rfl (.ext rfl rfl rfl (.stW rfl rfl ho59 rfl (by rw [hl59]; rfl) rfl (.as_ rfl rfl (.done (.thenN ?_))))))
            refine .tNil (.thenN ?_)
            exact J.dropF 1 (J.mid () trivial (.cons rfl (.cons rfl (.nil _))) rfl rfl)
          ·
            intro _ _
            refine .seq (.text (.fa rfl rfl (.ld rfl rfl rfl rfl (.cmpS rfl rfl rfl rfl (.mv rfl rfl (.and (d := 68) (g := 65) _ _ (take_drop 3) rfl rfl (fun hb10_4 => .guard rfl rfl rfl rfl (.mv rfl rfl (.guard rfl rfl rfl rfl (.not rfl rfl (.pick rfl rfl rfl rfl ((.done (.thenN (.midB rfl))))))))) (.guardNo rfl rfl rfl rfl rfl rfl (.guardNo rfl rfl rfl rfl rfl rfl (.pick rfl rfl rfl rfl ((.done (.thenN (.midB rfl))))))) (.done (.thenN ?_))))))))
            refine .cond rfl (fun hb10 => ?_) (fun hb10 => ?_)
            ·
              refine .seq (.text (.as_ rfl rfl (.done (.thenN ?_))))
              refine .ret (.thenR ?_)
              exact J.retR rfl (by rw [errC, if_neg (ifn hb1), if_neg (ifn hb3), if_neg (ifn hb5), if_neg (ifn hb7), if_pos hb10]; rfl) (.cons _ (List.Sublist.refl _))
            ·
              refine .skip (.thenN ?_)
              refine .seq (.text (.as_ rfl rfl (.done (.thenN ?_))))
              refine .ret ?_
              exact J.retR rfl (by rw [errC, if_neg (ifn hb1), if_neg (ifn hb3), if_neg (ifn hb5), if_neg (ifn hb7), if_neg (ifn hb10)]; rfl) (.cons _ (List.Sublist.refl _))

theorem node_walk {rp : Nat} {h m : Hp} {R : Rst} {n ix : Int} {addr : ByteArray} (ht : Ro m h rp R) (hw : RWf R) : FM Go.Proofs.Tryz.prog 25 [.pointer (some ⟨rp, 0, none⟩), .int .i64 n, .string addr, .int .u64 ix] h m (fun v h' m' => h' = h ∧ v = .int .i64 (nodeE R n addr) ∧ Ro m' h rp (nodeR R n addr ix)) := by
  obtain ⟨t0, t1, t2, m0, m1, m2, hb, rfl, d0, d1, T0, T1, T2⟩ := ht
  refine FS.enter Go.Proofs.Tryz.func25 rfl rfl fun w0 => ?_
  haveI : ∀ L, At h L rp (.cells ⟨rosV t0 t1 t2⟩ 66 (0, 0)) := fun L => At.ofH hb
  refine J.open3 d0 d1 ?_
  refine .seq (.text (.as_ rfl rfl (.done (.thenN ?_))))
  refine .seq (.block (.seq (.text (.mv rfl rfl (?_)))))
  refine .callR rfl rfl rnone_walk rfl rfl (.as_ rfl rfl (.done (.thenN ?_)))
  refine .condF rfl ?_
  refine .seq (.text (.mv rfl rfl (?_)))
  refine .callV rfl rfl right_walk rfl rfl (.not rfl rfl (.as_ rfl rfl (.done (.thenN ?_))))
  refine .cond rfl (fun hb3 => ?_) (fun hb3 => ?_)
  ·
    refine .seq (.text (.as_ rfl rfl (.done (.thenN ?_))))
    refine .ret (.blkR (.thenR ?_))
    refine J.shut3 fun d0' d1' => ?_
    exact J.retTmp rfl (List.Sublist.refl _) ⟨_, rfl, rfl, by rw [nodeE, if_pos hb3]; rfl, t0, t1, t2, _, _, _, hb, rfl, d0', d1', by rw [nodeR, if_pos hb3]; exact T0, by rw [nodeR, if_pos hb3]; exact T1, by rw [nodeR, if_pos hb3]; exact T2⟩
  ·
    have h0 : rightN n = true := by simpa using hb3
    refine .seq (.text (.mv rfl rfl (.lenS rfl rfl rfl (.cmp rfl rfl rfl rfl (.as_ rfl rfl (.done (.thenN ?_)))))))
    refine .cond rfl (fun hb5 => ?_) (fun hb5 => ?_)
    ·
      refine .seq (.text (.as_ rfl rfl (.done (.thenN ?_))))
      refine .ret (.blkR (.thenR ?_))
      refine J.shut3 fun d0' d1' => ?_
      exact J.retTmp rfl (List.Sublist.refl _) ⟨_, rfl, rfl, by rw [nodeE, if_neg (ifn hb3), if_pos hb5]; rfl, t0, t1, t2, _, _, _, hb, rfl, d0', d1', by rw [nodeR, if_neg (ifn hb3), if_pos hb5]; exact T0, by rw [nodeR, if_neg (ifn hb3), if_pos hb5]; exact T1, by rw [nodeR, if_neg (ifn hb3), if_pos hb5]; exact T2⟩
    ·
      refine .skip (.blkN (.thenN ?_))
      refine J.cut (ι := Hp) (fun m0 => Tb 7 119 111 RNod m0 h t0 R.most (if putFull R.most R.n (digitS n) then R.n else putL R.n (digitS n) ⟨n, addr, 0, 0⟩ ix rowN0) (if putFull R.most R.n (digitS n) then R.l0 else max R.l0 ix)) (fun _ => [(10, .int .i64 (if putFull R.most R.n (digitS n) then 5 else 0))]) (fun _ => h) (fun m0 => [m0, m1, m2]) ?_ ?_
      ·
        refine .tree2 (.seq [(0, .pure), (1, .pure), (2, .pure), (3, .read), (4, .pure), (6, .pure), (7, .pure), (8, .pure), (9, .pure)] (.both (.seq [(5, .grow)] (.both (.seq [(10, .mut), (11, .pure), (12, .pure), (13, .pure), (14, .grow), (15, .mut), (16, .pure)] .nil) (.seq [(14, .grow), (10, .mut), (11, .pure), (12, .pure), (13, .pure), (15, .mut), (16, .pure)] .nil))) (.seq [(14, .grow), (5, .grow), (10, .mut), (11, .pure), (12, .pure), (13, .pure), (15, .mut), (16, .pure)] .nil))) [131068, 131064, 131057, 97267, 131023, 0, 130751, 130687, 129599, 129535, 0, 115711, 92159, 55295, 0, 0, 57343] [0, 1, 2, 4, 0, 16, 0, 0, 192, 0, 808, 1024, 2048, 2048, 0, 24575, 65535] [113678, 113676, 113672, 113664, 113696, 113664, 113920, 113920, 113664, 113664, 112640, 110592, 98304, 65536, 98304, 65536, 0] [.pure, .pure, .pure, .read, .pure, .grow, .pure, .pure, .pure, .pure, .mut, .pure, .pure, .pure, .grow, .mut, .pure] rfl (by kernel_rfl) (by kernel_rfl) ?_
        refine .tSeq (.mv rfl rfl (.nilOk rfl rfl (.fa rfl rfl (.ld rfl rfl rfl rfl (.mv rfl rfl (.mv rfl rfl (.mv rfl rfl (.bld [_, _, _, _] rfl (by rfl) rfl ?_))))))))
        refine .mv rfl rfl (.done (.thenN ?_))
        refine .tBoth ?_ ?_
        ·
          refine .tSeq (.callV rfl rfl (digit_walk h0) rfl rfl (.done (.thenN ?_)))
          refine .tBoth ?_ ?_
          ·
            refine .tSeq (.callM rfl rfl (putNod (v := ⟨n, addr, 0, 0⟩) T0 hw.sn hw.ne rfl (by have := hw.ln; unfold maxL; omega)) rfl rfl fun u33 h33 m33 hl33 hu33 => ?_)
            obtain ⟨rfl, vs33, rfl, hl33', ho33, T0'⟩ := hu33
            refine .mv rfl rfl (.ext rfl rfl rfl (.ext rfl rfl rfl (.alloc (cs := [_, _, _, _, _, _, _]) rfl rfl rfl fun b9 => .stW rfl rfl ho33 rfl (by rw [hl33']; rfl) rfl (.as_ rfl rfl (.done (.thenN ?_))))))
            refine .tNil (.thenN ?_)
            exact J.dropF 1 (J.mid _ T0' (.cons rfl (.nil _)) rfl rfl)
          refine .tSeq (.alloc (cs := [_, _, _, _, _, _, _]) rfl rfl rfl fun b9 => ?_)
          refine .callM rfl rfl (putNod (v := ⟨n, addr, 0, 0⟩) T0 hw.sn hw.ne rfl (by have := hw.ln; unfold maxL; omega)) rfl rfl fun u33 h33 m33 hl33 hu33 => ?_
          obtain ⟨rfl, vs33, rfl, hl33', ho33, T0'⟩ := hu33
          refine .mv rfl rfl (.ext rfl rfl rfl (.ext rfl rfl rfl (.stW rfl rfl ho33 rfl (by rw [hl33']; rfl) rfl (.as_ rfl rfl (.done (.thenN ?_))))))
          refine .tNil (.thenN ?_)
          exact J.dropF 1 (J.mid _ T0' (.cons rfl (.nil _)) rfl rfl)
        refine .tSeq (.alloc (cs := [_, _, _, _, _, _, _]) rfl rfl rfl fun b9 => ?_)
        refine .callV rfl rfl (digit_walk h0) rfl rfl (?_)
        refine .callM rfl rfl (putNod (v := ⟨n, addr, 0, 0⟩) T0 hw.sn hw.ne rfl (by have := hw.ln; unfold maxL; omega)) rfl rfl fun u33 h33 m33 hl33 hu33 => ?_
        obtain ⟨rfl, vs33, rfl, hl33', ho33, T0'⟩ := hu33
        refine .mv rfl rfl (.ext rfl rfl rfl (.ext rfl rfl rfl (.stW rfl rfl ho33 rfl (by rw [hl33']; rfl) rfl (.as_ rfl rfl (.done (.thenN ?_))))))
        refine .tNil (.thenN ?_)
        exact J.dropF 1 (J.mid _ T0' (.cons rfl (.nil _)) rfl rfl)
      ·
        intro m0 T0
        refine .seq (.text (.mv rfl rfl (.as_ rfl rfl (.done (.thenN ?_)))))
        refine .ret ?_
        refine J.shut3 fun d0' d1' => ?_
        exact J.retTmp rfl (List.Sublist.refl _) ⟨_, rfl, rfl, by rw [nodeE, if_neg (ifn hb3), if_neg (ifn hb5)]; rfl, t0, t1, t2, _, _, _, hb, rfl, d0', d1', by rw [nodeR, if_neg (ifn hb3), if_neg (ifn hb5)]; exact T0, by rw [nodeR, if_neg (ifn hb3), if_neg (ifn hb5)]; exact T1, by rw [nodeR, if_neg (ifn hb3), if_neg (ifn hb5)]; exact T2⟩

theorem service_walk {rp : Nat} {h m : Hp} {R : Rst} {ix : Int} {s : Svc} {tv : Value} (ht : Ro m h rp R) (hw : RWf R) (hts : SlR h 1 RS tv s.tags) (sm : SvcSm s) : FM Go.Proofs.Tryz.prog 29 [.pointer (some ⟨rp, 0, none⟩), .agg ⟨svcV s tv⟩, .int .u64 ix] h m (fun v h' m' => v = .int .i64 (svcE R s) ∧ Ro m' h' rp (svcR R s ix)) := by
  obtain ⟨t0, t1, t2, m0, m1, m2, hb, rfl, d0, d1, T0, T1, T2⟩ := ht
  refine FS.enter Go.Proofs.Tryz.func29 rfl rfl fun w0 => ?_
  haveI : ∀ L, At h L rp (.cells ⟨rosV t0 t1 t2⟩ 66 (0, 0)) := fun L => At.ofH hb
  obtain ⟨tA, tc, rfl⟩ := hts.form
  obtain ⟨rv0, mr0, rfl, dd0, hr0⟩ := T0
  refine J.open3 d0 d1 (J.open dd0 ?_)
  refine .seq (.text (.box (cs := [_, _, _, _, _, _, _]) rfl rfl rfl rfl fun b4 => .as_ rfl rfl (.done (.thenN ?_))))
  refine .seq (.seq (.text (.mv rfl rfl (?_))))
  refine .callR rfl rfl rnone_walk rfl rfl (.done (.thenN ?_))
  refine .condF rfl ?_
  refine .skip (.thenN ?_)
  refine .seq (.seq (.text (.mv rfl rfl (.ldW rfl rfl rfl rfl (?_)))))
  refine .callR rfl rfl (wserv_walk hr0 hw.sn hw.ne hts sm) rfl rfl (.as_ rfl rfl (.done (.thenN ?_)))
  refine .seq (.text (.mv rfl rfl (.cmp rfl rfl rfl rfl (.done (.thenN ?_)))))
  refine .cond rfl (fun hb4 => ?_) (fun hb4 => ?_)
  ·
    have he : ¬ errS R.n s = 0 := by simpa using hb4
    refine .seq (.text (.mv rfl rfl (.as_ rfl rfl (.done (.thenN ?_)))))
    refine .ret (.thenR ?_)
    refine J.dropF 1 (J.shut fun dd' => J.shut3 fun d0' d1' => ?_)
    exact J.retTmp rfl (List.Sublist.refl _) ⟨_, rfl, by rw [svcE, if_neg he]; rfl, t0, t1, t2, _, _, _, hb, rfl, d0', d1', by rw [svcR, if_neg he]; exact ⟨_, _, rfl, dd', hr0⟩, by rw [svcR, if_neg he]; exact T1, by rw [svcR, if_neg he]; exact T2⟩
  ·
    have he : errS R.n s = 0 := by simpa using hb4
    refine .skip (.thenN ?_)
    refine .seq (.text (.bs [] rfl rfl rfl rfl (by decide) rfl rfl rfl fun b18 => ?_))
    refine .fa rfl rfl (.ld rfl rfl rfl rfl (.appL (xs := []) rfl ⟨[], SlO.mk rfl (by simp [maxL]), fun i hi => by simp at hi⟩ rfl hts rfl (by simpa using hts.len) rfl rfl fun v21 m21 hm21 => ?_))
    refine J.frz hm21 RS.mono fun h1 hl1 hs1 => ?_
    have hr0 := hr0.mono (RRow.mono RNod.mono) hl1
    have T1 := T1.mono RSvc.mono hl1
    have T2 := T2.mono RChk.mono hl1
    have hb := hl1 _ _ hb
    haveI : ∀ L, At h1 L rp (.cells ⟨rosV t0 t1 t2⟩ 66 (0, 0)) := fun L => At.ofH hb
    obtain ⟨A21, c21, rfl⟩ := hs1.form
    have e0 := errS_ok he
    refine .fa rfl rfl (.stS rfl rfl rfl rfl (.done (.thenN ?_)))
    refine J.cut (ι := Hp) (fun m1 => Tb 10 131 114 RSvc m1 h1 t1 R.most (if putFull R.most R.s (keyS s.node s.id) then R.s else putL R.s (keyS s.node s.id) s ix rowS0) (if putFull R.most R.s (keyS s.node s.id) then R.l1 else max R.l1 ix)) (fun _ => [(9, .int .i64 (if putFull R.most R.s (keyS s.node s.id) then 5 else 0))]) (fun _ => h1) (fun m1 => [one t0 (.cells ⟨[.int .i64 R.most, rv0, .int .u64 R.l0]⟩ 111 (0, 0)), mr0, m1, m2]) ?_ ?_
    ·
      refine .tree2 (.seq [(0, .pure), (1, .pure), (2, .pure), (3, .read), (4, .pure), (5, .read), (6, .pure), (7, .read), (9, .read), (10, .pure)] (.both (.seq [(8, .grow)] (.both (.seq [(11, .mut), (12, .pure), (13, .pure), (14, .pure), (15, .grow), (16, .mut), (17, .pure)] .nil) (.seq [(15, .grow), (11, .mut), (12, .pure), (13, .pure), (14, .pure), (16, .mut), (17, .pure)] .nil))) (.seq [(15, .grow), (8, .grow), (11, .mut), (12, .pure), (13, .pure), (14, .pure), (16, .mut), (17, .pure)] .nil))) [262140, 262136, 262129, 194547, 262095, 194255, 261951, 194111, 0, 194047, 259071, 0, 231423, 184319, 110591, 0, 0, 114687] [0, 1, 2, 4, 0, 16, 0, 64, 160, 0, 0, 1800, 2048, 4096, 4096, 0, 49151, 131071] [227342, 227340, 227336, 227328, 227616, 227584, 227712, 227584, 227328, 227328, 227328, 225280, 221184, 196608, 131072, 196608, 131072, 0] [.pure, .pure, .pure, .read, .pure, .read, .pure, .read, .grow, .read, .pure, .mut, .pure, .pure, .pure, .grow, .mut, .pure] rfl (by kernel_rfl) (by kernel_rfl) ?_
      refine .tSeq (.mv rfl rfl (.nilOk rfl rfl (.fa rfl rfl (.ld rfl rfl rfl rfl (.fa rfl rfl (.ld rfl rfl rfl rfl (.fa rfl rfl (.ld rfl rfl rfl rfl (.ldW rfl rfl rfl rfl (.mv rfl rfl (.done (.thenN ?_))))))))))))
      refine .tBoth ?_ ?_
      ·
        refine .tSeq (.callV rfl rfl (key_walk e0.1 sm.id) rfl rfl (.done (.thenN ?_)))
        refine .tBoth ?_ ?_
        ·
          refine .tSeq (.callM rfl rfl (putSvc (v := s) T1 hw.ss hw.ne ⟨_, rfl, hs1⟩ (by have := hw.ls; unfold maxL; omega)) rfl rfl fun u35 h35 m35 hl35 hu35 => ?_)
          obtain ⟨rfl, vs35, rfl, hl35', ho35, T1'⟩ := hu35
          refine .mv rfl rfl (.ext rfl rfl rfl (.ext rfl rfl rfl (.alloc (cs := [_, _, _, _, _, _, _, _, _, _]) rfl rfl rfl fun b8 => .stW rfl rfl ho35 rfl (by rw [hl35']; rfl) rfl (.as_ rfl rfl (.done (.thenN ?_))))))
          refine .tNil (.thenN ?_)
          exact J.dropF 2 (J.mid _ T1' (.cons rfl (.nil _)) rfl rfl)
        refine .tSeq (.alloc (cs := [_, _, _, _, _, _, _, _, _, _]) rfl rfl rfl fun b8 => ?_)
        refine .callM rfl rfl (putSvc (v := s) T1 hw.ss hw.ne ⟨_, rfl, hs1⟩ (by have := hw.ls; unfold maxL; omega)) rfl rfl fun u35 h35 m35 hl35 hu35 => ?_
        obtain ⟨rfl, vs35, rfl, hl35', ho35, T1'⟩ := hu35
        refine .mv rfl rfl (.ext rfl rfl rfl (.ext rfl rfl rfl (.stW rfl rfl ho35 rfl (by rw [hl35']; rfl) rfl (.as_ rfl rfl (.done (.thenN ?_))))))
        refine .tNil (.thenN ?_)
        exact J.dropF 2 (J.mid _ T1' (.cons rfl (.nil _)) rfl rfl)
      refine .tSeq (.alloc (cs := [_, _, _, _, _, _, _, _, _, _]) rfl rfl rfl fun b8 => ?_)
      refine .callV rfl rfl (key_walk e0.1 sm.id) rfl rfl (?_)
      refine .callM rfl rfl (putSvc (v := s) T1 hw.ss hw.ne ⟨_, rfl, hs1⟩ (by have := hw.ls; unfold maxL; omega)) rfl rfl fun u35 h35 m35 hl35 hu35 => ?_
      obtain ⟨rfl, vs35, rfl, hl35', ho35, T1'⟩ := hu35
      refine .mv rfl rfl (.ext rfl rfl rfl (.ext rfl rfl rfl (.stW rfl rfl ho35 rfl (by rw [hl35']; rfl) rfl (.as_ rfl rfl (.done (.thenN ?_))))))
      refine .tNil (.thenN ?_)
      exact J.dropF 2 (J.mid _ T1' (.cons rfl (.nil _)) rfl rfl)
    ·
      intro m1 T1
      refine .seq (.text (.mv rfl rfl (.as_ rfl rfl (.done (.thenN ?_)))))
      refine .ret ?_
      refine J.shut fun dd' => J.shut3 fun d0' d1' => ?_
      exact J.retTmp rfl (List.Sublist.refl _) ⟨_, rfl, by rw [svcE, if_pos he]; rfl, t0, t1, t2, _, _, _, hb, rfl, d0', d1', by rw [svcR, if_pos he]; exact ⟨_, _, rfl, dd', hr0⟩, by rw [svcR, if_pos he]; exact T1, by rw [svcR, if_pos he]; exact T2⟩

theorem check_walk {rp : Nat} {h m : Hp} {R : Rst} {ix : Int} {c : Chk} (ht : Ro m h rp R) (hw : RWf R) (sm : ChkSm c) : FM Go.Proofs.Tryz.prog 18 [.pointer (some ⟨rp, 0, none⟩), .agg ⟨chkV c⟩, .int .u64 ix] h m (fun v h' m' => h' = h ∧ v = .int .i64 (chkE R c) ∧ Ro m' h rp (chkR R c ix)) := by
  obtain ⟨t0, t1, t2, m0, m1, m2, hb, rfl, d0, d1, T0, T1, T2⟩ := ht
  refine FS.enter Go.Proofs.Tryz.func18 rfl rfl fun w0 => ?_
  haveI : ∀ L, At h L rp (.cells ⟨rosV t0 t1 t2⟩ 66 (0, 0)) := fun L => At.ofH hb
  obtain ⟨rv0, mr0, rfl, dd0, hr0⟩ := T0
  obtain ⟨rv1, mr1, rfl, dd1, hr1⟩ := T1
  refine J.open3 d0 d1 (J.open dd0 (J.front 2 rfl (J.open dd1 (J.front 3 rfl (J.front 3 rfl ?_)))))
  refine .seq (.text (.box (cs := [_, _, _, _, _, _, _]) rfl rfl rfl rfl fun b4 => .as_ rfl rfl (.done (.thenN ?_))))
  refine .seq (.seq (.text (.mv rfl rfl (?_))))
  refine .callR rfl rfl rnone_walk rfl rfl (.done (.thenN ?_))
  refine .condF rfl ?_
  refine .skip (.thenN ?_)
  refine .seq (.seq (.text (.mv rfl rfl (.ldW rfl rfl rfl rfl (?_)))))
  refine .callR rfl rfl (wchk_walk hr0 hw.sn hw.ne hr1 hw.ss hw.ne sm) rfl rfl (.as_ rfl rfl (.done (.thenN ?_)))
  refine .seq (.text (.mv rfl rfl (.cmp rfl rfl rfl rfl (.done (.thenN ?_)))))
  refine .cond rfl (fun hb4 => ?_) (fun hb4 => ?_)
  ·
    have he : ¬ errC R.n R.s c = 0 := by simpa using hb4
    refine .seq (.text (.mv rfl rfl (.as_ rfl rfl (.done (.thenN ?_)))))
    refine .ret (.thenR ?_)
    refine J.dropF 1 (J.shut fun dd' => J.front 2 rfl (J.front 2 rfl (J.shut fun dd1' => J.front 1 rfl (J.shut3 fun d0' d1' => ?_))))
    exact J.retTmp rfl (List.Sublist.refl _) ⟨_, rfl, rfl, by rw [chkE, if_neg he]; rfl, t0, t1, t2, _, _, _, hb, rfl, d0', d1', by rw [chkR, if_neg he]; exact ⟨_, _, rfl, dd', hr0⟩, by rw [chkR, if_neg he]; exact ⟨_, _, rfl, dd1', hr1⟩, by rw [chkR, if_neg he]; exact T2⟩
  ·
    have he : errC R.n R.s c = 0 := by simpa using hb4
    have e0 := errC_ok he
    refine .skip (.thenN ?_)
    refine J.cut (ι := Hp) (fun m2 => Tb 10 93 117 RChk m2 h t2 R.most (if putFull R.most R.c (keyS c.node c.id) then R.c else putL R.c (keyS c.node c.id) c ix rowC0) (if putFull R.most R.c (keyS c.node c.id) then R.l2 else max R.l2 ix)) (fun _ => [(9, .int .i64 (if putFull R.most R.c (keyS c.node c.id) then 5 else 0))]) (fun _ => h) (fun m2 => [one t0 (.cells ⟨[.int .i64 R.most, rv0, .int .u64 R.l0]⟩ 111 (0, 0)), mr0, one t1 (.cells ⟨[.int .i64 R.most, rv1, .int .u64 R.l1]⟩ 114 (0, 0)), mr1, m2]) ?_ ?_
    ·
      refine .tree2 (.seq [(0, .pure), (1, .pure), (2, .pure), (3, .read), (4, .pure), (5, .read), (6, .pure), (7, .read), (9, .read), (10, .pure)] (.both (.seq [(8, .grow)] (.both (.seq [(11, .mut), (12, .pure), (13, .pure), (14, .pure), (15, .grow), (16, .mut), (17, .pure)] .nil) (.seq [(15, .grow), (11, .mut), (12, .pure), (13, .pure), (14, .pure), (16, .mut), (17, .pure)] .nil))) (.seq [(15, .grow), (8, .grow), (11, .mut), (12, .pure), (13, .pure), (14, .pure), (16, .mut), (17, .pure)] .nil))) [262140, 262136, 262129, 194547, 262095, 194255, 261951, 194111, 0, 194047, 259071, 0, 231423, 184319, 110591, 0, 0, 114687] [0, 1, 2, 4, 0, 16, 0, 64, 160, 0, 0, 1800, 2048, 4096, 4096, 0, 49151, 131071] [227342, 227340, 227336, 227328, 227616, 227584, 227712, 227584, 227328, 227328, 227328, 225280, 221184, 196608, 131072, 196608, 131072, 0] [.pure, .pure, .pure, .read, .pure, .read, .pure, .read, .grow, .read, .pure, .mut, .pure, .pure, .pure, .grow, .mut, .pure] rfl (by kernel_rfl) (by kernel_rfl) ?_
      refine .tSeq (.mv rfl rfl (.nilOk rfl rfl (.fa rfl rfl (.ld rfl rfl rfl rfl (.fa rfl rfl (.ld rfl rfl rfl rfl (.fa rfl rfl (.ld rfl rfl rfl rfl (.ldW rfl rfl rfl rfl (.mv rfl rfl (.done (.thenN ?_))))))))))))
      refine .tBoth ?_ ?_
      ·
        refine .tSeq (.callV rfl rfl (key_walk e0.1 sm.id) rfl rfl (.done (.thenN ?_)))
        refine .tBoth ?_ ?_
        ·
          refine .tSeq (.callM rfl rfl (putChk (v := c) T2 hw.sc hw.ne rfl (by have := hw.lc; unfold maxL; omega)) rfl rfl fun u30 h30 m30 hl30 hu30 => ?_)
          obtain ⟨rfl, vs30, rfl, hl30', ho30, T2'⟩ := hu30
          refine .mv rfl rfl (.ext rfl rfl rfl (.ext rfl rfl rfl (.alloc (cs := [_, _, _, _, _, _, _, _, _, _]) rfl rfl rfl fun b8 => .stW rfl rfl ho30 rfl (by rw [hl30']; rfl) rfl (.as_ rfl rfl (.done (.thenN ?_))))))
          refine .tNil (.thenN ?_)
          exact J.dropF 2 (J.mid _ T2' (.cons rfl (.nil _)) rfl rfl)
        refine .tSeq (.alloc (cs := [_, _, _, _, _, _, _, _, _, _]) rfl rfl rfl fun b8 => ?_)
        refine .callM rfl rfl (putChk (v := c) T2 hw.sc hw.ne rfl (by have := hw.lc; unfold maxL; omega)) rfl rfl fun u30 h30 m30 hl30 hu30 => ?_
        obtain ⟨rfl, vs30, rfl, hl30', ho30, T2'⟩ := hu30
        refine .mv rfl rfl (.ext rfl rfl rfl (.ext rfl rfl rfl (.stW rfl rfl ho30 rfl (by rw [hl30']; rfl) rfl (.as_ rfl rfl (.done (.thenN ?_))))))
        refine .tNil (.thenN ?_)
        exact J.dropF 2 (J.mid _ T2' (.cons rfl (.nil _)) rfl rfl)
      refine .tSeq (.alloc (cs := [_, _, _, _, _, _, _, _, _, _]) rfl rfl rfl fun b8 => ?_)
      refine .callV rfl rfl (key_walk e0.1 sm.id) rfl rfl (?_)
      refine .callM rfl rfl (putChk (v := c) T2 hw.sc hw.ne rfl (by have := hw.lc; unfold maxL; omega)) rfl rfl fun u30 h30 m30 hl30 hu30 => ?_
      obtain ⟨rfl, vs30, rfl, hl30', ho30, T2'⟩ := hu30
      refine .mv rfl rfl (.ext rfl rfl rfl (.ext rfl rfl rfl (.stW rfl rfl ho30 rfl (by rw [hl30']; rfl) rfl (.as_ rfl rfl (.done (.thenN ?_))))))
      refine .tNil (.thenN ?_)
      exact J.dropF 2 (J.mid _ T2' (.cons rfl (.nil _)) rfl rfl)
    ·
      intro m2 T2
      refine .seq (.text (.mv rfl rfl (.as_ rfl rfl (.done (.thenN ?_)))))
      refine .ret ?_
      refine J.dropF 0 (J.shut fun dd' => J.front 2 rfl (J.front 2 rfl (J.shut fun dd1' => J.front 1 rfl (J.shut3 fun d0' d1' => ?_))))
      exact J.retTmp rfl (List.Sublist.refl _) ⟨_, rfl, rfl, by rw [chkE, if_pos he]; rfl, t0, t1, t2, _, _, _, hb, rfl, d0', d1', by rw [chkR, if_pos he]; exact ⟨_, _, rfl, dd', hr0⟩, by rw [chkR, if_pos he]; exact ⟨_, _, rfl, dd1', hr1⟩, by rw [chkR, if_pos he]; exact T2⟩
end Go.Sod
