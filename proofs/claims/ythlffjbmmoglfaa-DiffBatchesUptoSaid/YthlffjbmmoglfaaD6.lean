/-
  Same, and lists of commands, walked. Conditions: none.
-/
import Derived.Test.YthlffjbmmoglfaaD5
namespace Go.Sod
set_option linter.unusedVariables false
set_option linter.unusedSimpArgs false
set_option maxRecDepth 10000
set_option maxHeartbeats 4000000

theorem idx_lt {α : Type} {p : α → Bool} {xs : List α} (h : decide ((0 : Int) ≤ idxB p xs) = true) : (idxB p xs).toNat < xs.length := by
  unfold idxB at *
  cases e : xs.findIdx? p with
  | none => rw [e] at h; simp at h
  | some k =>
    rw [List.findIdx?_eq_some_iff_getElem] at e
    obtain ⟨hk, _⟩ := e
    simpa using hk
theorem idx_nat {α : Type} {p : α → Bool} {xs : List α} (h : decide ((0 : Int) ≤ idxB p xs) = true) : idxB p xs = ((idxB p xs).toNat : Int) := by
  have := of_decide_eq_true h
  omega
theorem idx_get {α : Type} {p : α → Bool} {xs : List α} {d : α} (h : decide ((0 : Int) ≤ idxB p xs) = true) : xs[(idxB p xs).toNat]'(idx_lt h) = (xs.find? p).getD d := by
  have hl := idx_lt h
  have hi : ∀ k, xs.findIdx? p = some k → (idxB p xs).toNat = k := fun k e => by simp [idxB, e]
  cases e : xs.findIdx? p with
  | none => unfold idxB at h; rw [e] at h; simp at h
  | some k =>
    have hk := hi k e
    rw [List.findIdx?_eq_some_iff_getElem] at e
    obtain ⟨hkl, h1, h2⟩ := e
    have : xs.find? p = some xs[k] := by
      rw [List.find?_eq_some_iff_getElem]
      exact ⟨h1, k, hkl, rfl, fun j hj => by simpa using h2 j hj⟩
    rw [this]
    simp only [hk, Option.getD_some]
theorem idx_some {α : Type} {p : α → Bool} {xs : List α} : decide ((0 : Int) ≤ idxB p xs) = (xs.find? p).isSome := by
  unfold idxB
  cases e : xs.findIdx? p with
  | none =>
    rw [List.findIdx?_eq_none_iff] at e
    have : xs.find? p = none := by rw [List.find?_eq_none]; exact fun x hx => by simp [e x hx]
    rw [this]; simp
  | some k =>
    rw [List.findIdx?_eq_some_iff_getElem] at e
    obtain ⟨hkl, h1, h2⟩ := e
    have : xs.find? p = some xs[k] := by
      rw [List.find?_eq_some_iff_getElem]
      exact ⟨h1, k, hkl, rfl, fun j hj => by simpa using h2 j hj⟩
    rw [this]; simp
theorem idx_neg {α : Type} {p : α → Bool} {xs : List α} : decide (idxB p xs < 0) = !(xs.find? p).isSome := by
  rw [← idx_some]
  by_cases h : (0 : Int) ≤ idxB p xs
  · rw [decide_eq_true h, decide_eq_false (by omega)]; rfl
  · rw [decide_eq_false h, decide_eq_true (by omega)]; rfl
def wasS (cs : List Svc) (id : ByteArray) : Svc := (cs.find? (idS id)).getD svc0
def wasC (cs : List Chk) (id : ByteArray) : Chk := (cs.find? (idC id)).getD chk0
def keepS (cs : List Svc) (x : Svc) : Bool := ((decide ((0 : Int) ≤ idxB (idS x.id) cs) && decide ((wasS cs x.id).name = x.name)) && decide ((wasS cs x.id).port = x.port)) && decide ((wasS cs x.id).tags = x.tags)
def keepC (cs : List Chk) (x : Chk) : Bool := ((decide ((0 : Int) ≤ idxB (idC x.id) cs) && decide ((wasC cs x.id).service = x.service)) && decide ((wasC cs x.id).note = x.note)) && decide ((wasC cs x.id).status = x.status)
def goneS (cs : List Svc) (x : Svc) : Bool := decide (idxB (idS x.id) cs < 0)
def goneC (cs : List Chk) (x : Chk) : Bool := decide (idxB (idC x.id) cs < 0)
def fm {α : Type} (p : α → Bool) (g : α → Cmd) (xs : List α) : List Cmd := (xs.filter p).map g
theorem fm_push {α : Type} (p : α → Bool) (g : α → Cmd) (xs : List α) (x : α) : fm p g (xs ++ [x]) = fm p g xs ++ (if p x then [g x] else []) := by
  simp only [fm, List.filter_append, List.map_append, List.filter_cons, List.filter_nil]; cases p x <;> rfl
theorem fm_len {α : Type} (p : α → Bool) (g : α → Cmd) (xs : List α) : (fm p g xs).length ≤ xs.length := by simp only [fm, List.length_map]; exact List.length_filter_le ..
def nodeR (o c : Own) : List Cmd := if (!c.there || !decide (c.addr = o.addr)) = true then [{ cmd0 1 o.node with note := o.addr }] else []
theorem nodeR_len (o c : Own) : (nodeR o c).length ≤ 1 := by unfold nodeR; split <;> simp
def refL1 (o c : Own) (n : Nat) : List Cmd := nodeR o c ++ fm (goneC o.checks) (dropChk o.node) ((catC c).take n)
def refL2 (o c : Own) (n : Nat) : List Cmd := refL1 o c (catC c).length ++ fm (goneS o.services) (dropSvc o.node) ((catS c).take n)
def refL3 (o c : Own) (n : Nat) : List Cmd := refL2 o c (catS c).length ++ fm (fun x => !keepS (catS c) x) (laySvc o.node) (o.services.take n)
def refL4 (o c : Own) (n : Nat) : List Cmd := refL3 o c o.services.length ++ fm (fun x => !keepC (catC c) x) (layChk o.node) (o.checks.take n)
theorem refL1_s {o c : Own} {k : Nat} (hk : k < (catC c).length) : refL1 o c (k + 1) = refL1 o c k ++ (if goneC o.checks (catC c)[k] then [dropChk o.node (catC c)[k]] else []) := by simp only [refL1, take_succ' hk, fm_push, List.append_assoc]
theorem refL2_s {o c : Own} {k : Nat} (hk : k < (catS c).length) : refL2 o c (k + 1) = refL2 o c k ++ (if goneS o.services (catS c)[k] then [dropSvc o.node (catS c)[k]] else []) := by simp only [refL2, take_succ' hk, fm_push, List.append_assoc]
theorem refL3_s {o c : Own} {k : Nat} (hk : k < o.services.length) : refL3 o c (k + 1) = refL3 o c k ++ (if (!keepS (catS c) o.services[k]) = true then [laySvc o.node o.services[k]] else []) := by simp only [refL3, take_succ' hk, fm_push, List.append_assoc]
theorem refL4_s {o c : Own} {k : Nat} (hk : k < o.checks.length) : refL4 o c (k + 1) = refL4 o c k ++ (if (!keepC (catC c) o.checks[k]) = true then [layChk o.node o.checks[k]] else []) := by simp only [refL4, take_succ' hk, fm_push, List.append_assoc]
theorem fm_nil {α : Type} (p : α → Bool) (g : α → Cmd) : fm p g [] = [] := rfl
theorem refL_len (o c : Own) (k : Nat) : (refL4 o c k).length ≤ 1 + bulkO o c ∧ (refL3 o c k).length ≤ 1 + bulkO o c ∧ (refL2 o c k).length ≤ 1 + bulkO o c ∧ (refL1 o c k).length ≤ 1 + bulkO o c := by
  have q1 := nodeR_len o c
  have q2 := fun n => fm_len (goneC o.checks) (dropChk o.node) ((catC c).take n)
  have q3 := fun n => fm_len (goneS o.services) (dropSvc o.node) ((catS c).take n)
  have q4 := fun n => fm_len (fun x => !keepS (catS c) x) (laySvc o.node) (o.services.take n)
  have q5 := fun n => fm_len (fun x => !keepC (catC c) x) (layChk o.node) (o.checks.take n)
  have q6 := catS_len c
  have q7 := catC_len c
  have a2 := q2 k; have b2 := q2 (catC c).length; have a3 := q3 k; have b3 := q3 (catS c).length; have a4 := q4 k; have b4 := q4 o.services.length; have a5 := q5 k
  simp only [List.length_take] at a2 b2 a3 b3 a4 b4 a5
  unfold refL4 refL3 refL2 refL1 bulkO
  simp only [List.length_append]
  omega

theorem same20_step {n : Nat} (ih : ∀ {h : Hp} {c : Cmd} {vs vs' : List Value}, RCmdN n h c vs → RCmd h c vs' → FH Go.Proofs.Try.prog 17 [.agg ⟨vs⟩, .agg ⟨vs'⟩] h (fun r h' => r = .bool true)) {h : Hp} {c : Cmd} {vs vs' : List Value} (hc : RCmdN (n + 1) h c vs) (hc' : RCmd h c vs') : FH Go.Proofs.Try.prog 17 [.agg ⟨vs⟩, .agg ⟨vs'⟩] h (fun r h' => r = .bool true) := by
  refine FS.enter Go.Proofs.Try.func17 rfl rfl fun w0 => ?_
  obtain ⟨tv, sv, rfl, ht, hs⟩ := hc
  obtain ⟨m, tv', sv', rfl, ht', hs'⟩ := hc'.succ
  have q1 : RCmd h c _ := ⟨n + 1, tv, sv, rfl, ht, hs⟩
  have q2 : RCmd h c _ := ⟨m + 1, tv', sv', rfl, ht', hs'⟩
  obtain ⟨tA, tc, rfl⟩ := ht.form
  obtain ⟨sA, sc, rfl⟩ := hs.form
  obtain ⟨tA', tc', rfl⟩ := ht'.form
  obtain ⟨sA', sc', rfl⟩ := hs'.form
  refine .seq (.text (.box (cs := [_, _, _, _, _, _, _, _, _, _, _, _, _, _, _, _, _]) rfl rfl rfl rfl fun b2 => .box (cs := [_, _, _, _, _, _, _, _, _, _, _, _, _, _, _, _, _]) rfl rfl rfl rfl fun b3 => .as_ rfl rfl (.done (.thenN ?_))))
  refine .seq (.seq (.text (.fa rfl rfl (.ld rfl rfl rfl rfl (.fa rfl rfl (.ld rfl rfl rfl rfl (.cmp (b := false) rfl rfl (by simp [cmpI]) rfl (.mv rfl rfl (.guard rfl rfl rfl rfl (.fa rfl rfl (.guard rfl rfl rfl rfl (.ld rfl rfl rfl rfl (.guard rfl rfl rfl rfl (.fa rfl rfl (.guard rfl rfl rfl rfl (.ld rfl rfl rfl rfl (.guard rfl rfl rfl rfl (.cmp (b := false) rfl rfl (by simp [cmpI]) rfl (.pick rfl rfl rfl rfl (.mv rfl rfl (.guard rfl rfl rfl rfl (.fa rfl rfl (.guard rfl rfl rfl rfl (.ld rfl rfl rfl rfl (.guard rfl rfl rfl rfl (.fa rfl rfl (.guard rfl rfl rfl rfl (.ld rfl rfl rfl rfl (.guard rfl rfl rfl rfl (.cmp (b := false) rfl rfl (by simp [cmpI]) rfl (.pick rfl rfl rfl rfl (.mv rfl rfl (.guard rfl rfl rfl rfl (.fa rfl rfl (.guard rfl rfl rfl rfl (.ld rfl rfl rfl rfl (.guard rfl rfl rfl rfl (.fa rfl rfl (.guard rfl rfl rfl rfl (.ld rfl rfl rfl rfl (.guard rfl rfl rfl rfl (.cmp (b := false) rfl rfl (by simp [cmpI]) rfl (.pick rfl rfl rfl rfl (.mv rfl rfl (.guard rfl rfl rfl rfl (.fa rfl rfl (.guard rfl rfl rfl rfl (.ld rfl rfl rfl rfl (.guard rfl rfl rfl rfl (.fa rfl rfl (.guard rfl rfl rfl rfl (.ld rfl rfl rfl rfl (.guard rfl rfl rfl rfl (.eqB (b := false) rfl rfl (.inr ⟨rfl, by simp⟩) rfl (.pick rfl rfl rfl rfl (.mv rfl rfl (.guard rfl rfl rfl rfl (.fa rfl rfl (.guard rfl rfl rfl rfl (.ld rfl rfl rfl rfl (.guard rfl rfl rfl rfl (.fa rfl rfl (.guard rfl rfl rfl rfl (.ld rfl rfl rfl rfl (.guard rfl rfl rfl rfl (.cmp (b := false) rfl rfl (by simp [cmpI]) rfl (.pick rfl rfl rfl rfl (.mv rfl rfl (.guard rfl rfl rfl rfl (.fa rfl rfl (.guard rfl rfl rfl rfl (.ld rfl rfl rfl rfl (.guard rfl rfl rfl rfl (.fa rfl rfl (.guard rfl rfl rfl rfl (.ld rfl rfl rfl rfl (.guard rfl rfl rfl rfl (.cmp (b := false) rfl rfl (by simp [cmpI]) rfl (.pick rfl rfl rfl rfl (.done (.thenN ?_)))))))))))))))))))))))))))))))))))))))))))))))))))))))))))))))))))))))))))))))))
  refine .condF rfl ?_
  refine .skip (.thenN ?_)
  refine .seq (.seq (.draw [(0, .read), (2, .read), (1, .grow), (3, .grow), (4, .grow), (5, .pure), (6, .pure), (7, .pure), (8, .read), (9, .pure), (10, .read), (11, .grow), (12, .pure), (13, .pure), (14, .pure), (15, .pure), (16, .read), (17, .pure), (18, .pure), (19, .read), (20, .pure), (21, .pure), (22, .pure)] rfl (by kernel_rfl) (.ldW rfl rfl rfl rfl (.ldW rfl rfl rfl rfl (?_)))))
  refine .callH rfl rfl (texts_walk q1) rfl rfl fun u54 h54 hl54 hu54 => ?_
  refine ?_
  refine .callH rfl rfl (texts_walk (q2.mono' hl54)) rfl rfl fun u56 h56 hl56 hu56 => ?_
  have hu54 := hu54.mono RS.mono hl56
  have ht := ht.mono RS.mono (Hp.le_trans hl54 hl56)
  have ht' := ht'.mono RS.mono (Hp.le_trans hl54 hl56)
  have hs := hs.mono (RCmdN.mono n) (Hp.le_trans hl54 hl56)
  have hs' := hs'.mono (RCmdN.mono m) (Hp.le_trans hl54 hl56)
  refine ?_
  refine .callV (V := .bool true) rfl rfl (by simpa using same01 hu54 hu56) rfl rfl (.not rfl rfl (.mv rfl rfl (.guard rfl rfl rfl rfl (.fa rfl rfl (.guard rfl rfl rfl rfl (.ld rfl rfl rfl rfl (.guard rfl rfl rfl rfl (.fa rfl rfl (.guard rfl rfl rfl rfl (.ld rfl rfl rfl rfl (.guard rfl rfl rfl rfl (?_))))))))))))
  refine .callV (V := .bool true) rfl rfl (by simpa using same01 ht ht') rfl rfl (.guard rfl rfl rfl rfl (.not rfl rfl (.pick rfl rfl rfl rfl (.mv rfl rfl (.guard rfl rfl rfl rfl (.fa rfl rfl (.guard rfl rfl rfl rfl (.ld rfl rfl rfl rfl (.guard rfl rfl rfl rfl (.len hs rfl rfl rfl (.guard rfl rfl rfl rfl (.fa rfl rfl (.guard rfl rfl rfl rfl (.ld rfl rfl rfl rfl (.guard rfl rfl rfl rfl (.len hs' rfl rfl rfl (.guard rfl rfl rfl rfl (.cmp (b := false) rfl rfl (by simp [cmpI]) rfl (.pick rfl rfl rfl rfl (.done (.thenN ?_)))))))))))))))))))))
  refine .condF rfl ?_
  refine .skip (.thenN ?_)
  refine .seq (.seq (.text (.as_ rfl rfl (.done (.thenN ?_)))))
  refine .block (?_)
  refine J.loop (ι := Nat × Hp) (fun i => i.1 ≤ c.subs.length ∧ h56.le i.2) (fun i => [(2, .pointer (some ⟨b2, 0, none⟩)), (3, .pointer (some ⟨b3, 0, none⟩)), (5, .int .i64 (i.1 : Int))]) (fun i => i.2) (fun i => [one b3 (.cells ⟨cmdV c (.slice tA' c.tags.length tc') (.slice sA' c.subs.length sc')⟩ 42 (0, 0)), one b2 (.cells ⟨cmdV c (.slice tA c.tags.length tc) (.slice sA c.subs.length sc)⟩ 42 (0, 0))]) (fun i => c.subs.length - i.1) (0, h56) ⟨by simp, Hp.le_refl _⟩ (.cons rfl (.cons rfl (.cons rfl (.nil _)))) rfl rfl ?_
  rintro ⟨k, hc⟩ ⟨hk0, hle⟩
  dsimp only at hk0 hle ⊢
  have hs := hs.mono (RCmdN.mono n) hle
  have hs' := hs'.mono (RCmdN.mono m) hle
  refine .seq (.seq (.text (.mv rfl rfl (.fa rfl rfl (.ld rfl rfl rfl rfl (.len hs rfl rfl rfl (.cmp rfl rfl rfl rfl (.done (.thenN ?_)))))))))
  refine .cond rfl (fun hb6 => ?_) (fun hb6 => ?_)
  ·
    have hk : k < c.subs.length := by simp [cmpI] at hb6; omega
    refine .skip (.thenN ?_)
    refine .seq (.block (.seq (.draw [(0, .pure), (1, .read), (2, .pure), (3, .pure), (4, .read), (5, .pure), (6, .read), (7, .pure), (8, .pure), (9, .read), (10, .grow), (11, .pure)] rfl (by kernel_rfl) (.fa rfl rfl (.ld rfl rfl rfl rfl (.mv rfl rfl (.ix hs rfl rfl rfl hk rfl (.ldE hs hk rfl rfl rfl fun vs87 hvs87 => .fa rfl rfl (.ld rfl rfl rfl rfl (.mv rfl rfl (.ix hs' rfl rfl rfl hk rfl (.ldE hs' hk rfl rfl rfl fun vs92 hvs92 => ?_))))))))))))
    refine .callH rfl rfl (ih hvs87 ⟨m, hvs92⟩) rfl rfl fun u93 h93 hl93 hu93 => ?_
    subst hu93
    refine .not rfl rfl (.done (.thenN ?_))
    refine .condF rfl ?_
    refine .skip (.blkN (.thenN ?_))
    refine .text (.mv rfl rfl (.inc rfl rfl (by have := hs.len; unfold maxL at this; omega) rfl (.as_ rfl rfl (.done (.thenN ?_)))))
    exact J.again (k + 1, h93) (by simp; omega) ⟨hk, Hp.le_trans hle hl93⟩ (.cons rfl (.cons rfl (.cons rfl (.nil _)))) rfl rfl
  ·
    refine .exit (.thenE (.thenE (.blkHit (.thenN ?_))))
    refine .seq (.text (.as_ rfl rfl (.done (.thenN ?_))))
    refine .ret ?_
    exact J.retH rfl rfl

theorem same20_walk : ∀ (n : Nat) {h : Hp} {c : Cmd} {vs vs' : List Value}, RCmdN n h c vs → RCmd h c vs' → FH Go.Proofs.Try.prog 17 [.agg ⟨vs⟩, .agg ⟨vs'⟩] h (fun r h' => r = .bool true)
  | 0, _, _, _, _, hc, _ => hc.elim
  | n + 1, _, _, _, _, hc, hc' => same20_step (same20_walk n) hc hc'
theorem same20 {h : Hp} {c : Cmd} {vs vs' : List Value} (hc : RCmd h c vs) (hc' : RCmd h c vs') : FH Go.Proofs.Try.prog 17 [.agg ⟨vs⟩, .agg ⟨vs'⟩] h (fun r h' => r = .bool true) := by
  obtain ⟨n, hc⟩ := hc
  exact same20_walk n hc hc'

theorem cmds_walk {h : Hp} {u v : Value} {xs : List Cmd} (hx : SlR h 17 RCmd u xs) (hy : SlR h 17 RCmd v xs) : FH Go.Proofs.Try.prog 9 [u, v] h (fun r h' => r = .bool true) := by
  refine FS.enter Go.Proofs.Try.func9 rfl rfl fun w0 => ?_
  refine .seq (.text (.as_ rfl rfl (.done (.thenN ?_))))
  refine .seq (.seq (.text (.mv rfl rfl (.len hx rfl rfl rfl (.mv rfl rfl (.len hy rfl rfl rfl (.cmp (b := false) rfl rfl (by simp [cmpI]) rfl (.done (.thenN ?_)))))))))
  refine .condF rfl ?_
  refine .skip (.thenN ?_)
  refine .seq (.seq (.text (.as_ rfl rfl (.done (.thenN ?_)))))
  refine .block (?_)
  refine J.loop (ι := Nat × Hp) (fun i => i.1 ≤ xs.length ∧ h.le i.2) (fun i => [(0, u), (1, v), (5, .int .i64 (i.1 : Int))]) (fun i => i.2) (fun i => []) (fun i => xs.length - i.1) (0, h) ⟨by simp, Hp.le_refl _⟩ (.cons rfl (.cons rfl (.cons rfl (.nil _)))) rfl rfl ?_
  rintro ⟨k, hc⟩ ⟨hk0, hle⟩
  dsimp only at hk0 hle ⊢
  have hx := hx.mono RCmd.mono hle
  have hy := hy.mono RCmd.mono hle
  refine .seq (.seq (.text (.mv rfl rfl (.mv rfl rfl (.len hx rfl rfl rfl (.cmp rfl rfl rfl rfl (.done (.thenN ?_))))))))
  refine .cond rfl (fun hb4 => ?_) (fun hb4 => ?_)
  ·
    have hk : k < xs.length := by simp [cmpI] at hb4; omega
    refine .skip (.thenN ?_)
    refine .seq (.block (.seq (.draw [(0, .pure), (1, .pure), (2, .pure), (3, .read), (4, .pure), (5, .pure), (6, .pure), (7, .read), (8, .grow), (9, .pure)] rfl (by kernel_rfl) (.mv rfl rfl (.mv rfl rfl (.ix hx rfl rfl rfl hk rfl (.ldE hx hk rfl rfl rfl fun vs20 hvs20 => .mv rfl rfl (.mv rfl rfl (.ix hy rfl rfl rfl hk rfl (.ldE hy hk rfl rfl rfl fun vs24 hvs24 => ?_))))))))))
    refine .callH rfl rfl (same20 hvs20 hvs24) rfl rfl fun u25 h25 hl25 hu25 => ?_
    subst hu25
    refine .not rfl rfl (.done (.thenN ?_))
    refine .condF rfl ?_
    refine .skip (.blkN (.thenN ?_))
    refine .text (.mv rfl rfl (.inc rfl rfl (by have := hx.len; unfold maxL at this; omega) rfl (.as_ rfl rfl (.done (.thenN ?_)))))
    exact J.again (k + 1, h25) (by simp; omega) ⟨hk, Hp.le_trans hle hl25⟩ (.cons rfl (.cons rfl (.cons rfl (.nil _)))) rfl rfl
  ·
    refine .exit (.thenE (.thenE (.blkHit (.thenN ?_))))
    refine .seq (.text (.as_ rfl rfl (.done (.thenN ?_))))
    refine .ret ?_
    exact J.retH rfl rfl
end Go.Sod
