/-
  What lets go of nodes, services and checks, walked. Conditions: none.
-/
import Derived.Test.YtemcklmfpapmpaaGreatX2
import Derived.Test.YtemcklmfpapmpaaGreatL4
namespace Go.Sod
set_option linter.unusedVariables false
set_option linter.unusedSimpArgs false
set_option maxRecDepth 10000
set_option maxHeartbeats 4000000

def dropTo {α : Type} (xs : List (Row α)) (p : Row α → Bool) (i : Nat) : List (Row α) := (xs.take i).filter (fun r => !p r) ++ xs.drop i
def lastTo {α : Type} (xs : List (Row α)) (p : Row α → Bool) (last ix : Int) (i : Nat) : Int := if (xs.take i).any p = true then max last ix else last
theorem dropTo_sub {α : Type} (xs : List (Row α)) (p : Row α → Bool) (i : Nat) : (dropTo xs p i).Sublist xs := by
  have h : ((xs.take i).filter (fun r => !p r) ++ xs.drop i).Sublist (xs.take i ++ xs.drop i) := List.Sublist.append_right List.filter_sublist _
  rwa [List.take_append_drop] at h
theorem Srt.sub {α : Type} {xs ys : List (Row α)} (hs : Srt xs) (h : ys.Sublist xs) : Srt ys := srt_iff.2 ((srt_iff.1 hs).sublist (h.map _))
theorem atIs_mem {α : Type} {xs : List (Row α)} {r : Row α} (hs : Srt xs) (hr : r ∈ xs) : atIs xs r.key = true := by
  cases hi : atIs xs r.key with
  | true => rfl
  | false =>
    obtain ⟨i, hi', e⟩ := List.getElem_of_mem hr
    have hki : keyAt xs i = r.key := by rw [keyAt_eq hi', e]
    by_cases h : i < atK xs r.key
    · have := atK_below h
      rw [hki, strLt_irrefl] at this; cases this
    · have := atK_above hs (key := r.key) (i := i) (by rw [if_neg (ifn hi)]; omega) hi'
      rw [hki, strLt_irrefl] at this; cases this
theorem srt_mid {α : Type} {A B : List (Row α)} {r : Row α} (hs : Srt (A ++ r :: B)) : atIs (A ++ r :: B) r.key = true ∧ dropL (A ++ r :: B) r.key = A ++ B := by
  have hg : keyAt (A ++ r :: B) A.length = r.key := by rw [keyAt_eq (by simp)]; simp
  have h1 : atIs (A ++ r :: B) r.key = true := atIs_mem hs (by simp)
  obtain ⟨a, b⟩ := atIs_iff.1 h1
  have hk : atK (A ++ r :: B) r.key = A.length := by
    rcases Nat.lt_trichotomy (atK (A ++ r :: B) r.key) A.length with q | q | q
    · have := hs _ _ q (by simp)
      rw [hg, b, strLt_irrefl] at this; cases this
    · exact q
    · have := hs _ _ q a
      rw [hg, b, strLt_irrefl] at this; cases this
  refine ⟨h1, ?_⟩
  rw [dropL, if_pos h1, hk]; simp
theorem dropTo_yes {α : Type} {xs : List (Row α)} {p : Row α → Bool} {i : Nat} (hs : Srt xs) (hi : i < xs.length) (hp : p xs[i] = true) : atIs (dropTo xs p i) xs[i].key = true ∧ dropL (dropTo xs p i) xs[i].key = dropTo xs p (i + 1) := by
  have e : dropTo xs p i = (xs.take i).filter (fun r => !p r) ++ xs[i] :: xs.drop (i + 1) := by rw [dropTo, List.drop_eq_getElem_cons hi]
  have hs' := hs.sub (dropTo_sub xs p i)
  rw [e] at hs' ⊢
  obtain ⟨a, b⟩ := srt_mid hs'
  refine ⟨a, b.trans ?_⟩
  rw [dropTo, filter_take_succ hi, hp]; simp
theorem dropTo_no {α : Type} {xs : List (Row α)} {p : Row α → Bool} {i : Nat} (hi : i < xs.length) (hp : p xs[i] = false) : dropTo xs p (i + 1) = dropTo xs p i := by
  rw [dropTo, dropTo, filter_take_succ hi, hp, List.drop_eq_getElem_cons hi]; simp
theorem lastTo_yes {α : Type} {xs : List (Row α)} {p : Row α → Bool} {last ix : Int} {i : Nat} (hi : i < xs.length) (hp : p xs[i] = true) : max (lastTo xs p last ix i) ix = lastTo xs p last ix (i + 1) := by
  unfold lastTo
  rw [List.take_add_one, List.getElem?_eq_getElem hi, List.any_append]
  have : (some xs[i]).toList.any p = true := by simp [hp]
  rw [this, Bool.or_true, if_pos rfl]
  split <;> omega
theorem lastTo_no {α : Type} {xs : List (Row α)} {p : Row α → Bool} {last ix : Int} {i : Nat} (hi : i < xs.length) (hp : p xs[i] = false) : lastTo xs p last ix (i + 1) = lastTo xs p last ix i := by
  unfold lastTo
  rw [List.take_add_one, List.getElem?_eq_getElem hi, List.any_append]
  have : (some xs[i]).toList.any p = false := by simp [hp]
  rw [this, Bool.or_false]
theorem dropTo_all {α : Type} {xs : List (Row α)} {p : Row α → Bool} : dropTo xs p xs.length = xs.filter fun r => !p r := by simp [dropTo]
theorem lastTo_all {α : Type} {xs : List (Row α)} {p : Row α → Bool} {last ix : Int} : lastTo xs p last ix xs.length = if xs.any p = true then max last ix else last := by simp [lastTo]
def lastD {α : Type} (xs : List (Row α)) (p : Row α → Bool) (last ix : Int) : Int := if xs.any p = true then max last ix else last
def dropNodeR (R : Rst) (n ix : Int) : Rst := if thereB R.n n = true then { R with n := dropL R.n (digitS n), l0 := if atIs R.n (digitS n) = true then max R.l0 ix else R.l0, s := R.s.filter fun r => !decide (r.val.node = n), l1 := lastD R.s (fun r => decide (r.val.node = n)) R.l1 ix, c := R.c.filter fun r => !decide (r.val.node = n), l2 := lastD R.c (fun r => decide (r.val.node = n)) R.l2 ix } else R
def dropNodeE (R : Rst) (n : Int) : Int := if (!thereB R.n n) = true then 4 else 0
def svcIs (R : Rst) (n : Int) (id : ByteArray) : Bool := !(!rightN n || !atIs R.s (keyS n id))
def chkIs (R : Rst) (n : Int) (id : ByteArray) : Bool := !(!rightN n || !atIs R.c (keyS n id))
def dropSvcE (R : Rst) (n : Int) (id : ByteArray) : Int := if svcIs R n id = true then 0 else 4
def dropSvcR (R : Rst) (n : Int) (id : ByteArray) (ix : Int) : Rst := if svcIs R n id = true then { R with s := dropL R.s (keyS n id), l1 := max R.l1 ix, c := R.c.filter fun r => !(decide (r.val.node = n) && decide (r.val.service = id)), l2 := lastD R.c (fun r => decide (r.val.node = n) && decide (r.val.service = id)) R.l2 ix } else R
def dropChkE (R : Rst) (n : Int) (id : ByteArray) : Int := if chkIs R n id = true then 0 else 4
def dropChkR (R : Rst) (n : Int) (id : ByteArray) (ix : Int) : Rst := if chkIs R n id = true then { R with c := dropL R.c (keyS n id), l2 := max R.l2 ix } else R

theorem dn1_walk {h : Hp} {B : Nat} {n : Int} {T : TypeId} {fr : Nat × Nat} (hB : h B = some (.cells ⟨[.int .i64 n]⟩ T fr)) {c : Chk} : FV Go.Proofs.Tryz.prog 70 [.agg ⟨chkV c⟩, .pointer (some ⟨B, 0, none⟩)] h (.bool (decide (c.node = n))) := by
  refine FS.enter Go.Proofs.Tryz.func70 rfl rfl fun w0 => ?_
  haveI : ∀ L, At h L B (.cells ⟨[.int .i64 n]⟩ T fr) := fun L => At.ofH hB
  refine .seq (.text (.box (cs := [_, _, _, _, _, _, _]) rfl rfl rfl rfl fun b2 => .as_ rfl rfl (.done (.thenN ?_))))
  refine .seq (.text (.fa rfl rfl (.ld rfl rfl rfl rfl (.ld rfl rfl rfl rfl (.cmp rfl rfl rfl rfl (.as_ rfl rfl (.done (.thenN ?_))))))))
  refine .ret ?_
  exact J.retV rfl rfl

theorem ds1_walk {h : Hp} {B B' : Nat} {n : Int} {id : ByteArray} {T T' : TypeId} {fr fr' : Nat × Nat} (hB : h B = some (.cells ⟨[.int .i64 n]⟩ T fr)) (hB' : h B' = some (.cells ⟨[.string id]⟩ T' fr')) {c : Chk} : FV Go.Proofs.Tryz.prog 77 [.agg ⟨chkV c⟩, .pointer (some ⟨B, 0, none⟩), .pointer (some ⟨B', 0, none⟩)] h (.bool (decide (c.node = n) && decide (c.service = id))) := by
  refine FS.enter Go.Proofs.Tryz.func77 rfl rfl fun w0 => ?_
  haveI : ∀ L, At h L B (.cells ⟨[.int .i64 n]⟩ T fr) := fun L => At.ofH hB
  haveI : ∀ L, At h L B' (.cells ⟨[.string id]⟩ T' fr') := fun L => At.ofH hB'
  refine .seq (.text (.box (cs := [_, _, _, _, _, _, _]) rfl rfl rfl rfl fun b3 => .as_ rfl rfl (.done (.thenN ?_))))
  refine .seq (.text (.fa rfl rfl (.ld rfl rfl rfl rfl (.ld rfl rfl rfl rfl (.cmp rfl rfl rfl rfl (.mv rfl rfl (.and (d := 14) (g := 9) _ _ (take_drop 5) rfl rfl (fun hb1_5 => .guard rfl rfl rfl rfl (.fa rfl rfl (.guard rfl rfl rfl rfl (.ld rfl rfl rfl rfl (.guard rfl rfl rfl rfl (.ld rfl rfl rfl rfl (.guard rfl rfl rfl rfl (.cmpS rfl rfl rfl rfl (.pick rfl rfl rfl rfl ((.done (.thenN (.midB rfl))))))))))))) (.guardNo rfl rfl rfl rfl rfl rfl (.guardNo rfl rfl rfl rfl rfl rfl (.guardNo rfl rfl rfl rfl rfl rfl (.guardNo rfl rfl rfl rfl rfl rfl (.pick rfl rfl rfl rfl ((.done (.thenN (.midB rfl))))))))) (.as_ rfl rfl (.done (.thenN ?_))))))))))
  refine .ret ?_
  exact J.retV rfl rfl

theorem dropChecks_walk {h m2 : Hp} {rp t0 t1 t2 yf : Nat} {most last ix : Int} {xs : List (Row Chk)} {ycap : List Value} {yes : Chk → Bool} [Fnc Go.Proofs.Tryz.prog yf] (hb : h rp = some (.cells ⟨rosV t0 t1 t2⟩ 66 (0, 0))) (T2 : Tb 10 93 117 RChk m2 h t2 most xs last) (hs : Srt xs) (hm : most ≠ 0) (hyes : ∀ c h1, h.le h1 → FV Go.Proofs.Tryz.prog yf (.agg ⟨chkV c⟩ :: ycap) h1 (.bool (yes c))) : FM Go.Proofs.Tryz.prog 69 [.pointer (some ⟨rp, 0, none⟩), .func (.func yf) ⟨[]⟩ ⟨ycap⟩, .int .u64 ix] h m2 (fun v h' m' => v = .tuple ⟨[]⟩ ∧ Tb 10 93 117 RChk m' h' t2 most (xs.filter fun r => !yes r.val) (lastD xs (fun r : Row Chk => yes r.val) last ix)) := by
  refine FS.enter Go.Proofs.Tryz.func69 rfl rfl fun w0 => ?_
  refine .seq (.text (.box (cs := [_]) rfl rfl rfl rfl fun b3 => .box (cs := [_]) rfl rfl rfl rfl fun b4 => .box (cs := [_]) rfl rfl rfl rfl fun b5 => .done (.thenN ?_)))
  refine .seq (?_)
  refine J.frzB fun h1 hl1 hBb5 => J.frzB fun h2 hl2 hBb4 => J.frzB fun h3 hl3 hBb3 => ?_
  have hle3 := Hp.le_trans hl1 (Hp.le_trans hl2 hl3)
  have hBb5 := hl3 _ _ (hl2 _ _ hBb5)
  have hBb4 := hl3 _ _ hBb4
  have hb := hle3 _ _ hb
  obtain ⟨rv2, mr2, rfl, dd2, hr2⟩ := T2.mono RChk.mono hle3
  haveI : ∀ L, At h3 L b3 (.cells ⟨[.pointer (some ⟨rp, 0, none⟩)]⟩ 23 (0, 0)) := fun L => At.ofH hBb3
  haveI : ∀ L, At h3 L b4 (.cells ⟨[.func (.func yf) ⟨[]⟩ ⟨ycap⟩]⟩ 127 (0, 0)) := fun L => At.ofH hBb4
  haveI : ∀ L, At h3 L b5 (.cells ⟨[.int .u64 ix]⟩ 29 (0, 0)) := fun L => At.ofH hBb5
  haveI : ∀ L, At h3 L rp (.cells ⟨rosV t0 t1 t2⟩ 66 (0, 0)) := fun L => At.ofH hb
  refine J.open dd2 ?_
  refine .text (.ld rfl rfl rfl rfl (.nilOk rfl rfl (.fa rfl rfl (.ld rfl rfl rfl rfl (?_)))))
  refine .callG rfl rfl (EachChk_walk hr2 hm) rfl rfl fun u12 h4 hl4 hu4 => ?_
  obtain ⟨B2, B, lv, zs, rfl, hB2, hBx, hz, hz1⟩ := hu4
  have hr2 := hr2.mono (RRow.mono RChk.mono) hl4
  have hBb3 := hl4 _ _ hBb3
  have hBb4 := hl4 _ _ hBb4
  have hBb5 := hl4 _ _ hBb5
  have hb := hl4 _ _ hb
  have hle4 := Hp.le_trans hle3 hl4
  refine J.shut fun dd2' => ?_
  refine .done (.thenN ?_)
  refine .block (?_)
  refine J.range rfl rfl (EachChk_it hB2 hBx hz) (by intro p hp; simp at hp; rcases hp with rfl | rfl <;> exact Nat.le_of_ble_eq_true rfl) (by intro i hi; simp) (fun i h5 L5 => h4.le h5 ∧ ∃ m', L5 = [m'] ∧ Tb 10 93 117 RChk m' h5 t2 most (dropTo xs (fun r : Row Chk => yes r.val) i) (lastTo xs (fun r : Row Chk => yes r.val) last ix i)) (fun _ _ _ => False) ⟨Hp.le_refl _, _, rfl, _, _, rfl, dd2', hr2⟩ ?_ ?_ ?_
  ·
    rintro l i hi h5 L5 hle5 ⟨hle', m', rfl, T'⟩ w1
    have hil : i < zs.length := by simpa using hi
    have hlz : zs.length = xs.length := by rw [← hz1, List.length_map]
    have hix : i < xs.length := by omega
    have e1 : zs[i].1 = xs[i] := by simp [← hz1]
    obtain ⟨vs, a1, a2, ⟨rfl, z1, z2, z3⟩, _⟩ := hz.at hil
    have z3 : zs[i].2 = chkV zs[i].1.val := z3
    rw [List.getElem_map, z3, e1]
    have hBb3 := hle' _ _ hBb3
    have hBb4 := hle' _ _ hBb4
    have hBb5 := hle' _ _ hBb5
    have hb := hle' _ _ hb
    haveI : ∀ L, At h5 L b3 (.cells ⟨[.pointer (some ⟨rp, 0, none⟩)]⟩ 23 (0, 0)) := fun L => At.ofH hBb3
    haveI : ∀ L, At h5 L b4 (.cells ⟨[.func (.func yf) ⟨[]⟩ ⟨ycap⟩]⟩ 127 (0, 0)) := fun L => At.ofH hBb4
    haveI : ∀ L, At h5 L b5 (.cells ⟨[.int .u64 ix]⟩ 29 (0, 0)) := fun L => At.ofH hBb5
    haveI : ∀ L, At h5 L rp (.cells ⟨rosV t0 t1 t2⟩ 66 (0, 0)) := fun L => At.ofH hb
    refine .seq (.text (.as_ rfl rfl (.done (.thenN ?_))))
    refine .text (.alloc (cs := [_, _, _, _, _, _, _]) rfl rfl rfl fun b7 => .stW rfl rfl rfl rfl rfl rfl (.done (.thenN ?_)))
    refine J.asgEnd fun w2 => ?_
    refine .block (.seq (.text (.ld rfl rfl rfl rfl (.ldW rfl rfl rfl rfl (?_)))))
    refine .callV rfl rfl (hyes xs[i].val h5 (Hp.le_trans hle4 hle')) rfl rfl (.done (.thenN ?_))
    refine .cond rfl (fun hb4 => ?_) (fun hb4 => ?_)
    ·
      refine .draw [(0, .read), (1, .pure), (2, .pure), (3, .read), (4, .pure), (5, .read), (6, .mut)] rfl (by kernel_rfl) (.ld rfl rfl rfl rfl (.nilOk rfl rfl (.fa rfl rfl (.ld rfl rfl rfl rfl (.mv rfl rfl (.ld rfl rfl rfl rfl (?_)))))))
      refine .callM rfl rfl (dropChk T' (hs.sub (dropTo_sub xs (fun r : Row Chk => yes r.val) i)) hm) rfl rfl fun u24 h6 m6 hl6 hu6 => ?_
      obtain ⟨rfl, T6⟩ := hu6
      refine .done (.blkN ?_)
      have hyp : (fun r : Row Chk => yes r.val) xs[i] = true := hb4
      obtain ⟨d1, d2⟩ := dropTo_yes (p := (fun r : Row Chk => yes r.val)) hs hix hyp
      rw [d2, if_pos d1, lastTo_yes (p := (fun r : Row Chk => yes r.val)) hix hyp] at T6
      exact J.dropF 1 (J.roundN ⟨Hp.le_trans hle' hl6, _, rfl, T6⟩)
    ·
      refine .skip (.blkN ?_)
      have hyp : (fun r : Row Chk => yes r.val) xs[i] = false := hb4
      rw [← dropTo_no (p := (fun r : Row Chk => yes r.val)) hix hyp, ← lastTo_no (p := (fun r : Row Chk => yes r.val)) (last := last) (ix := ix) hix hyp] at T'
      exact J.dropF 1 (J.roundN ⟨hle', _, rfl, T'⟩)
  ·
    rintro D h7 L7 hle7 ⟨hle', m', rfl, T'⟩
    rw [List.length_map, show zs.length = xs.length from by rw [← hz1, List.length_map], dropTo_all, lastTo_all] at T'
    refine (.blkN ?_)
    refine J.unmark ?_
    exact J.dropF 1 (J.retTmp (vs := []) rfl (List.Sublist.refl _) ⟨_, rfl, rfl, T'⟩)
  ·
    exact fun D c h1 L1 _ hf => hf.elim

theorem dropNode_walk {rp : Nat} {h m : Hp} {R : Rst} {n ix : Int} (ht : Ro m h rp R) (hw : RWf R) : FM Go.Proofs.Tryz.prog 27 [.pointer (some ⟨rp, 0, none⟩), .int .i64 n, .int .u64 ix] h m (fun v h' m' => v = .int .i64 (dropNodeE R n) ∧ Ro m' h' rp (dropNodeR R n ix)) := by
  obtain ⟨t0, t1, t2, m0, m1, m2, hb, rfl, d0, d1, T0, T1, T2⟩ := ht
  refine FS.enter Go.Proofs.Tryz.func27 rfl rfl fun w0 => ?_
  refine .seq (.text (.box (cs := [_]) rfl rfl rfl rfl fun b3 => .box (cs := [_]) rfl rfl rfl rfl fun b4 => .box (cs := [_]) rfl rfl rfl rfl fun b5 => .as_ rfl rfl (.done (.thenN ?_))))
  refine .seq (.seq (?_))
  refine J.frzB fun h1 hl1 hBb5 => J.frzB fun h2 hl2 hBb4 => J.frzB fun h3 hl3 hBb3 => ?_
  have hle3 := Hp.le_trans hl1 (Hp.le_trans hl2 hl3)
  have hBb5 := hl3 _ _ (hl2 _ _ hBb5)
  have hBb4 := hl3 _ _ hBb4
  have hb := hle3 _ _ hb
  have T1 := T1.mono RSvc.mono hle3
  have T2 := T2.mono RChk.mono hle3
  obtain ⟨rv0, mr0, rfl, dd0, hr0⟩ := T0.mono RNod.mono hle3
  haveI : ∀ L, At h3 L b3 (.cells ⟨[.pointer (some ⟨rp, 0, none⟩)]⟩ 23 (0, 0)) := fun L => At.ofH hBb3
  haveI : ∀ L, At h3 L b4 (.cells ⟨[.int .i64 n]⟩ 3 (0, 0)) := fun L => At.ofH hBb4
  haveI : ∀ L, At h3 L b5 (.cells ⟨[.int .u64 ix]⟩ 29 (0, 0)) := fun L => At.ofH hBb5
  haveI : ∀ L, At h3 L rp (.cells ⟨rosV t0 t1 t2⟩ 66 (0, 0)) := fun L => At.ofH hb
  refine J.open3 d0 d1 (J.open dd0 ?_)
  refine .text (.ld rfl rfl rfl rfl (?_))
  refine .callR rfl rfl rnone_walk rfl rfl (.done (.thenN ?_))
  refine .condF rfl ?_
  refine .skip (.thenN ?_)
  refine .seq (.seq (.text (.ld rfl rfl rfl rfl (.ld rfl rfl rfl rfl (?_)))))
  refine .callR rfl rfl (there_walk hr0 hw.sn hw.ne) rfl rfl ?_
  refine J.shut fun dd0' => ?_
  refine .not rfl rfl (.done (.thenN ?_))
  refine .cond rfl (fun hb3 => ?_) (fun hb3 => ?_)
  ·
    refine .seq (.text (.as_ rfl rfl (.done (.thenN ?_))))
    refine .ret (.thenR ?_)
    have hth : thereB R.n n = false := by simpa using hb3
    refine J.shut3 fun d0' d1' => J.retTmp rfl (List.Sublist.refl _) ⟨_, rfl, by rw [dropNodeE, if_pos hb3]; rfl, ?_⟩
    rw [dropNodeR, if_neg (ifn hth)]
    exact ⟨t0, t1, t2, _, _, _, hb, rfl, d0', d1', ⟨_, _, rfl, dd0', hr0⟩, T1, T2⟩
  ·
    have hth : thereB R.n n = true := by simpa using hb3
    have hrn : rightN n = true := by unfold thereB at hth; simp only [Bool.and_eq_true] at hth; exact hth.1
    refine .skip (.thenN ?_)
    refine .seq (.draw [(0, .read), (1, .pure), (2, .pure), (3, .read), (4, .read), (6, .read), (5, .grow), (7, .mut)] rfl (by kernel_rfl) (.ld rfl rfl rfl rfl (.nilOk rfl rfl (.fa rfl rfl (.ld rfl rfl rfl rfl (.ld rfl rfl rfl rfl (.ld rfl rfl rfl rfl (?_))))))))
    refine .callV rfl rfl (digit_walk hrn) rfl rfl (?_)
    refine .callM rfl rfl (dropNod ⟨_, _, rfl, dd0', hr0⟩ hw.sn hw.ne) rfl rfl fun u22 h22 m22 hl22 hu22 => ?_
    obtain ⟨rfl, T0⟩ := hu22
    have hb := hl22 _ _ hb
    have hBb3 := hl22 _ _ hBb3
    have hBb4 := hl22 _ _ hBb4
    have hBb5 := hl22 _ _ hBb5
    haveI : ∀ L, At h22 L b3 (.cells ⟨[.pointer (some ⟨rp, 0, none⟩)]⟩ 23 (0, 0)) := fun L => At.ofH hBb3
    haveI : ∀ L, At h22 L b4 (.cells ⟨[.int .i64 n]⟩ 3 (0, 0)) := fun L => At.ofH hBb4
    haveI : ∀ L, At h22 L b5 (.cells ⟨[.int .u64 ix]⟩ 29 (0, 0)) := fun L => At.ofH hBb5
    haveI : ∀ L, At h22 L rp (.cells ⟨rosV t0 t1 t2⟩ 66 (0, 0)) := fun L => At.ofH hb
    have T2 := T2.mono RChk.mono hl22
    obtain ⟨rv1, mr1, rfl, dd1, hr1⟩ := T1.mono RSvc.mono hl22
    refine J.front 1 rfl (J.open dd1 ?_)
    refine .done (.thenN ?_)
    refine .seq (.seq (.text (.ld rfl rfl rfl rfl (.nilOk rfl rfl (.fa rfl rfl (.ld rfl rfl rfl rfl (?_)))))))
    refine .callG rfl rfl (EachSvc_walk hr1 hw.ne) rfl rfl fun u27 h27 hl27 hu27 => ?_
    obtain ⟨B2, B, lv, zs, rfl, hB2, hBx, hz, hz1⟩ := hu27
    have hr1 := hr1.mono (RRow.mono RSvc.mono) hl27
    have T0 := T0.mono RNod.mono hl27
    have T2 := T2.mono RChk.mono hl27
    have hBb3 := hl27 _ _ hBb3
    have hBb4 := hl27 _ _ hBb4
    have hBb5 := hl27 _ _ hBb5
    have hb := hl27 _ _ hb
    refine J.shut fun dd1' => ?_
    refine .done (.thenN ?_)
    refine .block (?_)
    refine J.range rfl rfl (EachSvc_it hB2 hBx hz) (by intro p hp; simp at hp; rcases hp with rfl | rfl <;> exact Nat.le_of_ble_eq_true rfl) (by intro i hi; simp) (fun i h5 L5 => h27.le h5 ∧ ∃ m', L5 = [m', m22, m2] ∧ Tb 10 131 114 RSvc m' h5 t1 R.most (dropTo R.s (fun r : Row Svc => decide (r.val.node = n)) i) (lastTo R.s (fun r : Row Svc => decide (r.val.node = n)) R.l1 ix i)) (fun _ _ _ => False) ⟨Hp.le_refl _, _, rfl, _, _, rfl, dd1', hr1⟩ ?_ ?_ ?_
    ·
      rintro l i hi h5 L5 hle5 ⟨hle', m', rfl, T'⟩ w1
      have hil : i < zs.length := by simpa using hi
      have hlz : zs.length = R.s.length := by rw [← hz1, List.length_map]
      have hix : i < R.s.length := by omega
      have e1 : zs[i].1 = R.s[i] := by simp [← hz1]
      obtain ⟨vs, a1, a2, ⟨rfl, z1, z2, z3⟩, _⟩ := hz.at hil
      obtain ⟨tv, z3, htv⟩ := z3
      replace z3 : zs[i].2 = svcV zs[i].1.val tv := z3
      obtain ⟨tA, tc, rfl⟩ := htv.form
      rw [e1] at z3
      rw [List.getElem_map, z3, e1]
      have hBb3 := hle' _ _ hBb3
      have hBb4 := hle' _ _ hBb4
      have hBb5 := hle' _ _ hBb5
      have hb := hle' _ _ hb
      haveI : ∀ L, At h5 L b3 (.cells ⟨[.pointer (some ⟨rp, 0, none⟩)]⟩ 23 (0, 0)) := fun L => At.ofH hBb3
      haveI : ∀ L, At h5 L b4 (.cells ⟨[.int .i64 n]⟩ 3 (0, 0)) := fun L => At.ofH hBb4
      haveI : ∀ L, At h5 L b5 (.cells ⟨[.int .u64 ix]⟩ 29 (0, 0)) := fun L => At.ofH hBb5
      haveI : ∀ L, At h5 L rp (.cells ⟨rosV t0 t1 t2⟩ 66 (0, 0)) := fun L => At.ofH hb
      refine .seq (.text (.as_ rfl rfl (.done (.thenN ?_))))
      refine .text (.alloc (cs := [_, _, _, _, _, _, _]) rfl rfl rfl fun b8 => .stW rfl rfl rfl rfl rfl rfl (.done (.thenN ?_)))
      refine J.asgEnd fun w2 => ?_
      refine .block (.seq (.text (.fa rfl rfl (.ld rfl rfl rfl rfl (.ld rfl rfl rfl rfl (.cmp rfl rfl rfl rfl (.done (.thenN ?_))))))))
      refine .cond rfl (fun hb9 => ?_) (fun hb9 => ?_)
      ·
        refine .draw [(0, .read), (1, .pure), (2, .pure), (3, .read), (4, .pure), (5, .read), (6, .mut)] rfl (by kernel_rfl) (.ld rfl rfl rfl rfl (.nilOk rfl rfl (.fa rfl rfl (.ld rfl rfl rfl rfl (.mv rfl rfl (.ld rfl rfl rfl rfl (?_)))))))
        refine .callM rfl rfl (dropSvc T' (hw.ss.sub (dropTo_sub R.s (fun r : Row Svc => decide (r.val.node = n)) i)) hw.ne) rfl rfl fun u40 h6 m6 hl6 hu6 => ?_
        obtain ⟨rfl, T6⟩ := hu6
        refine .done (.blkN ?_)
        have hyp : (fun r : Row Svc => decide (r.val.node = n)) R.s[i] = true := hb9
        obtain ⟨d1, d2⟩ := dropTo_yes (p := (fun r : Row Svc => decide (r.val.node = n))) hw.ss hix hyp
        rw [d2, if_pos d1, lastTo_yes (p := (fun r : Row Svc => decide (r.val.node = n))) hix hyp] at T6
        exact J.dropF 1 (J.roundN ⟨Hp.le_trans hle' hl6, _, rfl, T6⟩)
      ·
        refine .skip (.blkN ?_)
        have hyp : (fun r : Row Svc => decide (r.val.node = n)) R.s[i] = false := hb9
        rw [← dropTo_no (p := (fun r : Row Svc => decide (r.val.node = n))) hix hyp, ← lastTo_no (p := (fun r : Row Svc => decide (r.val.node = n))) (last := R.l1) (ix := ix) hix hyp] at T'
        exact J.dropF 1 (J.roundN ⟨hle', _, rfl, T'⟩)
    ·
      rintro D h7 L7 hle7 ⟨hle', m', rfl, T'⟩
      rw [List.length_map, show zs.length = R.s.length from by rw [← hz1, List.length_map], dropTo_all, lastTo_all] at T'
      have hBb3 := hle' _ _ hBb3
      have hBb4 := hle' _ _ hBb4
      have hBb5 := hle' _ _ hBb5
      have hb := hle' _ _ hb
      haveI : ∀ L, At h7 L b3 (.cells ⟨[.pointer (some ⟨rp, 0, none⟩)]⟩ 23 (0, 0)) := fun L => At.ofH hBb3
      haveI : ∀ L, At h7 L b4 (.cells ⟨[.int .i64 n]⟩ 3 (0, 0)) := fun L => At.ofH hBb4
      haveI : ∀ L, At h7 L b5 (.cells ⟨[.int .u64 ix]⟩ 29 (0, 0)) := fun L => At.ofH hBb5
      haveI : ∀ L, At h7 L rp (.cells ⟨rosV t0 t1 t2⟩ 66 (0, 0)) := fun L => At.ofH hb
      have T0 := T0.mono RNod.mono hle'
      have T2 := T2.mono RChk.mono hle'
      refine (.blkN (.thenN ?_))
      refine .seq (.text (.ld rfl rfl rfl rfl (.mkF rfl rfl rfl (.ld rfl rfl rfl rfl (?_)))))
      refine .callM rfl rfl (dropChecks_walk (yes := fun c => decide (c.node = n)) hb T2 hw.sc hw.ne (fun c h8 hl8 => dn1_walk (hl8 _ _ hBb4))) rfl rfl fun u44 h9 m9 hl9 hu9 => ?_
      obtain ⟨rfl, T2⟩ := hu9
      refine .done (.thenN ?_)
      refine .seq (.text (.as_ rfl rfl (.done (.thenN ?_))))
      refine .ret ?_
      refine J.unmark ?_
      refine J.dropF 1 (J.front 1 rfl (J.shut3 fun d0' d1' => J.retTmp rfl (List.Sublist.refl _) ⟨_, rfl, by rw [dropNodeE, if_neg (ifn hb3)]; rfl, ?_⟩))
      rw [dropNodeR, if_pos hth]
      exact ⟨t0, t1, t2, _, _, _, hl9 _ _ hb, rfl, d0', d1', T0.mono RNod.mono hl9, T'.mono RSvc.mono hl9, T2⟩
    ·
      exact fun D c h1 L1 _ hf => hf.elim

theorem dropService_walk {rp : Nat} {h m : Hp} {R : Rst} {n ix : Int} {id : ByteArray} (ht : Ro m h rp R) (hw : RWf R) (hid : id.size ≤ maxL) : FM Go.Proofs.Tryz.prog 31 [.pointer (some ⟨rp, 0, none⟩), .int .i64 n, .string id, .int .u64 ix] h m (fun v h' m' => v = .int .i64 (dropSvcE R n id) ∧ Ro m' h' rp (dropSvcR R n id ix)) := by
  obtain ⟨t0, t1, t2, m0, m1, m2, hb, rfl, d0, d1, T0, T1, T2⟩ := ht
  refine FS.enter Go.Proofs.Tryz.func31 rfl rfl fun w0 => ?_
  refine .seq (.text (.box (cs := [_]) rfl rfl rfl rfl fun b5 => .box (cs := [_]) rfl rfl rfl rfl fun b6 => .as_ rfl rfl (.done (.thenN ?_))))
  refine .seq (.seq (?_))
  refine J.frzB fun h1 hl1 hBb6 => J.frzB fun h2 hl2 hBb5 => ?_
  have hle2 := Hp.le_trans hl1 hl2
  have hBb6 := hl2 _ _ hBb6
  have hb := hle2 _ _ hb
  have T0 := T0.mono RNod.mono hle2
  have T1 := T1.mono RSvc.mono hle2
  have T2 := T2.mono RChk.mono hle2
  haveI : ∀ L, At h2 L b5 (.cells ⟨[.int .i64 n]⟩ 3 (0, 0)) := fun L => At.ofH hBb5
  haveI : ∀ L, At h2 L b6 (.cells ⟨[.string id]⟩ 9 (0, 0)) := fun L => At.ofH hBb6
  haveI : ∀ L, At h2 L rp (.cells ⟨rosV t0 t1 t2⟩ 66 (0, 0)) := fun L => At.ofH hb
  refine J.open3 d0 d1 ?_
  refine .text (.mv rfl rfl (?_))
  refine .callR rfl rfl rnone_walk rfl rfl (.done (.thenN ?_))
  refine .condF rfl ?_
  refine .skip (.thenN ?_)
  refine .seq (.text (.ld rfl rfl rfl rfl (.mkF rfl rfl rfl (.as_ rfl rfl (.done (.thenN ?_))))))
  refine .seq (.seq (.draw [(0, .read), (1, .grow), (2, .pure), (3, .pure), (4, .pure), (5, .pure), (6, .pure), (7, .read), (8, .pure), (9, .read), (11, .pure), (10, .grow), (12, .mut), (13, .pure), (14, .pure)] rfl (by kernel_rfl) (.ld rfl rfl rfl rfl (?_))))
  refine .callV rfl rfl right_walk rfl rfl (.not rfl rfl (.mv rfl rfl (.grpG (ι := Hp × Hp) (fun i => h2.le i.2 ∧ Tb 10 131 114 RSvc i.1 i.2 t1 R.most (if rightN n = true then dropL R.s (keyS n id) else R.s) (if rightN n = true then (if atIs R.s (keyS n id) = true then max R.l1 ix else R.l1) else R.l1)) (fun _ => !rightN n || !atIs R.s (keyS n id)) (fun i => i.2) (fun i => [m0, i.1, m2]) (d := 28) _ _ (take_drop 11) rfl ?_ ?_)))
  ·
    refine J.split (t := 17) rfl (fun hb4_4 => ?_) (fun hb4_4 => ?_)
    ·
      refine .guardNo rfl rfl rfl rfl rfl rfl (.guardNo rfl rfl rfl rfl rfl rfl (.guardNo rfl rfl rfl rfl rfl rfl (.guardNo rfl rfl rfl rfl rfl rfl (.guardNo rfl rfl rfl rfl rfl rfl (.guardNo rfl rfl rfl rfl rfl rfl (.guardNo rfl rfl rfl rfl rfl rfl (.guardNo rfl rfl rfl rfl rfl rfl (.guardNo rfl rfl rfl rfl rfl rfl (.guardNo rfl rfl rfl rfl rfl rfl (.pick rfl rfl rfl rfl ((.done (.thenN ?_)))))))))))))
      have hrn : rightN n = false := by simpa using hb4_4
      refine J.midG (m1, h2) ⟨Hp.le_refl _, ?_⟩ ?_ rfl rfl
      · dsimp only; rw [if_neg (ifn hrn), if_neg (ifn hrn)]; exact T1
      · rw [hrn]; rfl
    ·
      have hrn : rightN n = true := by simpa using hb4_4
      refine .guard rfl rfl rfl rfl (.mv rfl rfl (.guard rfl rfl rfl rfl (.nilOk rfl rfl (.guard rfl rfl rfl rfl (.fa rfl rfl (.guard rfl rfl rfl rfl (.ld rfl rfl rfl rfl (.guard rfl rfl rfl rfl (.mv rfl rfl (.guard rfl rfl rfl rfl (.ld rfl rfl rfl rfl (.guard rfl rfl rfl rfl (.mv rfl rfl (.guard rfl rfl rfl rfl (?_)))))))))))))))
      refine .callV rfl rfl (key_walk hrn hid) rfl rfl (.guard rfl rfl rfl rfl (?_))
      refine .callM rfl rfl (dropSvc T1 hw.ss hw.ne) rfl rfl fun ua ha ma hla hua => ?_
      obtain ⟨rfl, Ta⟩ := hua
      refine .guard rfl rfl rfl rfl (.not rfl rfl (.pick rfl rfl rfl rfl ((.done (.thenN ?_)))))
      refine J.midG (ma, ha) ⟨hla, ?_⟩ ?_ rfl rfl
      · dsimp only; rw [if_pos hrn, if_pos hrn]; exact Ta
      · rw [hrn]; rfl
  rintro ⟨m1, h3⟩ ⟨hl3, T1⟩
  dsimp only at hl3 T1 ⊢
  have hb := hl3 _ _ hb
  have hBb5 := hl3 _ _ hBb5
  have hBb6 := hl3 _ _ hBb6
  have T0 := T0.mono RNod.mono hl3
  have T2 := T2.mono RChk.mono hl3
  haveI : ∀ L, At h3 L b5 (.cells ⟨[.int .i64 n]⟩ 3 (0, 0)) := fun L => At.ofH hBb5
  haveI : ∀ L, At h3 L b6 (.cells ⟨[.string id]⟩ 9 (0, 0)) := fun L => At.ofH hBb6
  haveI : ∀ L, At h3 L rp (.cells ⟨rosV t0 t1 t2⟩ 66 (0, 0)) := fun L => At.ofH hb
  refine .done (.thenN ?_)
  refine .cond rfl (fun hb4 => ?_) (fun hb4 => ?_)
  ·
    have hsi : svcIs R n id = false := by rw [svcIs]; exact congrArg (!·) hb4
    refine .seq (.text (.as_ rfl rfl (.done (.thenN ?_))))
    refine .ret (.thenR ?_)
    refine J.shut3 fun d0' d1' => J.retTmp rfl (List.Sublist.refl _) ⟨_, rfl, by rw [dropSvcE, if_neg (ifn hsi)]; rfl, ?_⟩
    rw [dropSvcR, if_neg (ifn hsi)]
    refine ⟨t0, t1, t2, _, _, _, hb, rfl, d0', d1', T0, ?_, T2⟩
    cases hrn : rightN n with
    | false => rw [hrn] at T1; exact T1
    | true =>
      have q2 : atIs R.s (keyS n id) = false := by rw [hrn] at hb4; simpa using hb4
      rw [hrn, q2, dropL, q2] at T1; exact T1
  ·
    have hsi : svcIs R n id = true := by rw [svcIs]; exact congrArg (!·) hb4
    obtain ⟨q1, q2⟩ := Bool.or_eq_false_iff.1 hb4
    have q1 : rightN n = true := by simpa using q1
    have q2 : atIs R.s (keyS n id) = true := by simpa using q2
    rw [if_pos q1, if_pos q1, if_pos q2] at T1
    refine .skip (.thenN ?_)
    refine .seq (.text (.mv rfl rfl (.mkF rfl rfl rfl (.mv rfl rfl (?_)))))
    refine .callM rfl rfl (dropChecks_walk (yes := fun c => decide (c.node = n) && decide (c.service = id)) hb T2 hw.sc hw.ne (fun c h8 hl8 => ds1_walk (hl8 _ _ hBb5) (hl8 _ _ hBb6))) rfl rfl fun u32 h9 m9 hl9 hu9 => ?_
    obtain ⟨rfl, T2⟩ := hu9
    refine .done (.thenN ?_)
    refine .seq (.text (.as_ rfl rfl (.done (.thenN ?_))))
    refine .ret ?_
    refine J.shut3 fun d0' d1' => J.retTmp rfl (List.Sublist.refl _) ⟨_, rfl, by rw [dropSvcE, if_pos hsi]; rfl, ?_⟩
    rw [dropSvcR, if_pos hsi]
    exact ⟨t0, t1, t2, _, _, _, hl9 _ _ hb, rfl, d0', d1', T0.mono RNod.mono hl9, T1.mono RSvc.mono hl9, T2⟩

theorem dropCheck_walk {rp : Nat} {h m : Hp} {R : Rst} {n ix : Int} {id : ByteArray} (ht : Ro m h rp R) (hw : RWf R) (hid : id.size ≤ maxL) : FM Go.Proofs.Tryz.prog 19 [.pointer (some ⟨rp, 0, none⟩), .int .i64 n, .string id, .int .u64 ix] h m (fun v h' m' => v = .int .i64 (dropChkE R n id) ∧ Ro m' h' rp (dropChkR R n id ix)) := by
  obtain ⟨t0, t1, t2, m0, m1, m2, hb, rfl, d0, d1, T0, T1, T2⟩ := ht
  refine FS.enter Go.Proofs.Tryz.func19 rfl rfl fun w0 => ?_
  haveI : ∀ L, At h L rp (.cells ⟨rosV t0 t1 t2⟩ 66 (0, 0)) := fun L => At.ofH hb
  refine J.open3 d0 d1 ?_
  refine .seq (.text (.as_ rfl rfl (.done (.thenN ?_))))
  refine .seq (.seq (.text (.mv rfl rfl (?_))))
  refine .callR rfl rfl rnone_walk rfl rfl (.done (.thenN ?_))
  refine .condF rfl ?_
  refine .skip (.thenN ?_)
  refine .seq (.seq (.draw [(0, .pure), (1, .grow), (2, .pure), (3, .pure), (4, .pure), (5, .pure), (6, .pure), (7, .read), (8, .pure), (9, .pure), (11, .pure), (10, .grow), (12, .mut), (13, .pure), (14, .pure)] rfl (by kernel_rfl) (.mv rfl rfl (?_))))
  refine .callV rfl rfl right_walk rfl rfl (.not rfl rfl (.mv rfl rfl (.grpG (ι := Hp × Hp) (fun i => h.le i.2 ∧ Tb 10 93 117 RChk i.1 i.2 t2 R.most (if rightN n = true then dropL R.c (keyS n id) else R.c) (if rightN n = true then (if atIs R.c (keyS n id) = true then max R.l2 ix else R.l2) else R.l2)) (fun _ => !rightN n || !atIs R.c (keyS n id)) (fun i => i.2) (fun i => [m0, m1, i.1]) (d := 25) _ _ (take_drop 11) rfl ?_ ?_)))
  ·
    refine J.split (t := 14) rfl (fun hb3_4 => ?_) (fun hb3_4 => ?_)
    ·
      refine .guardNo rfl rfl rfl rfl rfl rfl (.guardNo rfl rfl rfl rfl rfl rfl (.guardNo rfl rfl rfl rfl rfl rfl (.guardNo rfl rfl rfl rfl rfl rfl (.guardNo rfl rfl rfl rfl rfl rfl (.guardNo rfl rfl rfl rfl rfl rfl (.guardNo rfl rfl rfl rfl rfl rfl (.guardNo rfl rfl rfl rfl rfl rfl (.guardNo rfl rfl rfl rfl rfl rfl (.guardNo rfl rfl rfl rfl rfl rfl (.pick rfl rfl rfl rfl ((.done (.thenN ?_)))))))))))))
      have hrn : rightN n = false := by simpa using hb3_4
      refine J.midG (m2, h) ⟨Hp.le_refl _, ?_⟩ ?_ rfl rfl
      · dsimp only; rw [if_neg (ifn hrn), if_neg (ifn hrn)]; exact T2
      · rw [hrn]; rfl
    ·
      have hrn : rightN n = true := by simpa using hb3_4
      refine .guard rfl rfl rfl rfl (.mv rfl rfl (.guard rfl rfl rfl rfl (.nilOk rfl rfl (.guard rfl rfl rfl rfl (.fa rfl rfl (.guard rfl rfl rfl rfl (.ld rfl rfl rfl rfl (.guard rfl rfl rfl rfl (.mv rfl rfl (.guard rfl rfl rfl rfl (.mv rfl rfl (.guard rfl rfl rfl rfl (.mv rfl rfl (.guard rfl rfl rfl rfl (?_)))))))))))))))
      refine .callV rfl rfl (key_walk hrn hid) rfl rfl (.guard rfl rfl rfl rfl (?_))
      refine .callM rfl rfl (dropChk T2 hw.sc hw.ne) rfl rfl fun ua ha ma hla hua => ?_
      obtain ⟨rfl, Ta⟩ := hua
      refine .guard rfl rfl rfl rfl (.not rfl rfl (.pick rfl rfl rfl rfl ((.done (.thenN ?_)))))
      refine J.midG (ma, ha) ⟨hla, ?_⟩ ?_ rfl rfl
      · dsimp only; rw [if_pos hrn, if_pos hrn]; exact Ta
      · rw [hrn]; rfl
  rintro ⟨m2, h3⟩ ⟨hl3, T2⟩
  dsimp only at hl3 T2 ⊢
  have hb := hl3 _ _ hb
  have T0 := T0.mono RNod.mono hl3
  have T1 := T1.mono RSvc.mono hl3
  refine .done (.thenN ?_)
  refine .cond rfl (fun hb3 => ?_) (fun hb3 => ?_)
  ·
    have hsi : chkIs R n id = false := by rw [chkIs]; exact congrArg (!·) hb3
    refine .seq (.text (.as_ rfl rfl (.done (.thenN ?_))))
    refine .ret (.thenR ?_)
    refine J.shut3 fun d0' d1' => J.retTmp rfl (List.Sublist.refl _) ⟨_, rfl, by rw [dropChkE, if_neg (ifn hsi)]; rfl, ?_⟩
    rw [dropChkR, if_neg (ifn hsi)]
    refine ⟨t0, t1, t2, _, _, _, hb, rfl, d0', d1', T0, T1, ?_⟩
    cases hrn : rightN n with
    | false => rw [hrn] at T2; exact T2
    | true =>
      have q2 : atIs R.c (keyS n id) = false := by rw [hrn] at hb3; simpa using hb3
      rw [hrn, q2, dropL, q2] at T2; exact T2
  ·
    have hsi : chkIs R n id = true := by rw [chkIs]; exact congrArg (!·) hb3
    obtain ⟨q1, q2⟩ := Bool.or_eq_false_iff.1 hb3
    have q1 : rightN n = true := by simpa using q1
    have q2 : atIs R.c (keyS n id) = true := by simpa using q2
    rw [if_pos q1, if_pos q1, if_pos q2] at T2
    refine .skip (.thenN ?_)
    refine .seq (.text (.as_ rfl rfl (.done (.thenN ?_))))
    refine .ret ?_
    refine J.shut3 fun d0' d1' => J.retTmp rfl (List.Sublist.refl _) ⟨_, rfl, by rw [dropChkE, if_pos hsi]; rfl, ?_⟩
    rw [dropChkR, if_pos hsi]
    exact ⟨t0, t1, t2, _, _, _, hb, rfl, d0', d1', T0, T1, T2⟩

theorem rcopy_walk {rp : Nat} {h m : Hp} {R : Rst} (hR : Ro m h rp R) (hw : RWf R) : FS Go.Proofs.Tryz.prog 35 [.pointer (some ⟨rp, 0, none⟩)] h [m] (fun v h' ms' => ∃ m', ms' = [m', m] ∧ h.le h' ∧ ∃ rp', v = .pointer (some ⟨rp', 0, none⟩) ∧ Ro m' h' rp' R) := by
  refine FS.enter Go.Proofs.Tryz.func35 rfl rfl fun w0 => ?_
  obtain ⟨t0, t1, t2, m0, m1, m2, hb, rfl, d0, d1, T0, T1, T2⟩ := hR
  obtain ⟨rv0, mr0, rfl, dd0, hr0⟩ := T0
  obtain ⟨rv1, mr1, rfl, dd1, hr1⟩ := T1
  obtain ⟨rv2, mr2, rfl, dd2, hr2⟩ := T2
  haveI : ∀ L, At h L rp (.cells ⟨rosV t0 t1 t2⟩ 66 (0, 0)) := fun L => At.ofH hb
  refine J.open6 d0 d1 dd0 dd1 dd2 ?_
  refine .seq (.text (.as_ rfl rfl (.done (.thenN ?_))))
  refine .seq (.seq (.text (.mv rfl rfl (?_))))
  refine .callR rfl rfl rnone_walk rfl rfl (.done (.thenN ?_))
  refine .condF rfl ?_
  refine .skip (.thenN ?_)
  refine .seq (.draw [(0, .pure), (1, .pure), (2, .pure), (3, .read), (5, .pure), (6, .pure), (7, .pure), (8, .read), (10, .pure), (11, .pure), (12, .pure), (13, .read), (4, .grow), (9, .grow), (14, .grow), (15, .pure), (16, .grow), (17, .pure)] rfl (by kernel_rfl) (.mv rfl rfl (.nilOk rfl rfl (.fa rfl rfl (.ld rfl rfl rfl rfl (.mv rfl rfl (.nilOk rfl rfl (.fa rfl rfl (.ld rfl rfl rfl rfl (.mv rfl rfl (.nilOk rfl rfl (.fa rfl rfl (.ld rfl rfl rfl rfl (?_))))))))))))))
  refine .callN rfl rfl (copyNod hr0 hw.ne) rfl rfl fun u9 h9 m9 hl9 hu9 => ?_
  obtain ⟨rfl, q0, rfl, U0⟩ := hu9
  refine ?_
  refine .callN rfl rfl (copySvc hr1 hw.ne) rfl rfl fun u14 h14 m14 hl14 hu14 => ?_
  obtain ⟨rfl, q1, rfl, U1⟩ := hu14
  refine ?_
  refine .callN rfl rfl (copyChk hr2 hw.ne) rfl rfl fun u19 h19 m19 hl19 hu19 => ?_
  obtain ⟨rfl, q2, rfl, U2⟩ := hu19
  refine .bld [_, _, _] rfl (by rfl) rfl ?_
  refine .box (cs := [_, _, _]) rfl rfl rfl rfl fun b21 => .as_ rfl rfl (.done (.thenN ?_))
  refine .ret ?_
  refine J.frzB fun h' hl' hb' => ?_
  refine J.front 8 rfl (J.front 8 rfl (J.front 8 rfl (J.front 8 rfl (J.front 8 rfl (J.front 8 rfl ?_)))))
  refine J.shut6 fun _ _ _ _ _ => J.front 1 rfl (J.front 2 rfl (J.front 3 rfl (J.shut3 fun e0 e1 => ?_)))
  exact J.retTmp rfl (List.Sublist.refl _) ⟨_, rfl, hl', _, rfl, q0, q1, q2, _, _, _, hb', rfl, e0, e1, U0.mono RNod.mono hl', U1.mono RSvc.mono hl', U2.mono RChk.mono hl'⟩
end Go.Sod
