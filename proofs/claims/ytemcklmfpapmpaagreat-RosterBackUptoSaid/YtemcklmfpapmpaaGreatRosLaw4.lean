/-
  The plain law of a whole roster: what is there leans on what is there; indexes rise. Conditions: none.
-/
import Derived.Test.YtemcklmfpapmpaaGreatRosLaw3
namespace Go.Sod
set_option linter.unusedVariables false
set_option linter.unusedSimpArgs false

structure Whl (R : Rst) : Prop where
  n : ∀ r, r ∈ R.n → r.val.addr.size ≤ 32
  s : ∀ r, r ∈ R.s → errS R.n r.val = 0
  c : ∀ r, r ∈ R.c → errC R.n R.s r.val = 0
theorem errS_mono {xs ys : List (Row Nod)} {s : Svc} (h : thereB xs s.node = true → thereB ys s.node = true) (e : errS xs s = 0) : errS ys s = 0 := by
  have ht := h (errS_ok e).2.2.2.2.2.2
  unfold errS at e ⊢
  split at e; · cases e
  split at e; · cases e
  rename_i h1 h2
  rw [if_neg h1, if_neg h2, ht]; rfl
theorem errC_mono {xs ys : List (Row Nod)} {ss ts : List (Row Svc)} {c : Chk} (h : thereB xs c.node = true → thereB ys c.node = true) (hs : c.service ≠ ⟨#[]⟩ → atIs ss (keyS c.node c.service) = true → atIs ts (keyS c.node c.service) = true) (e : errC xs ss c = 0) : errC ys ts c = 0 := by
  obtain ⟨_, _, _, _, _, _, ht, hsv⟩ := errC_ok e
  have ht := h ht
  unfold errC at e ⊢
  split at e; · cases e
  split at e; · cases e
  split at e; · cases e
  rename_i h1 h2 h3
  rw [if_neg h1, if_neg h2, if_neg h3, ht, if_neg (by decide)]
  by_cases q : c.service = ⟨#[]⟩
  · rw [if_neg]; simp [q]
  · rcases hsv with hq | hq
    · exact absurd hq q
    · rw [hs q hq, if_neg]; simp
theorem putL_mem' {α : Type} {xs : List (Row α)} {key : ByteArray} {v : α} {ix : Int} {r0 r : Row α} (hr : r ∈ xs) (hk : r.key ≠ key) : r ∈ putL xs key v ix r0 := by
  rw [putL_split]
  cases hi : atIs xs key with
  | false =>
    rw [if_neg (by decide)]
    have : r ∈ xs.take (atK xs key) ++ xs.drop (atK xs key) := by rw [List.take_append_drop]; exact hr
    rcases List.mem_append.1 this with h | h
    · exact List.mem_append_left _ h
    · exact List.mem_append_right _ (List.mem_cons_of_mem _ h)
  | true =>
    rw [if_pos rfl]
    obtain ⟨a, b⟩ := atIs_iff.1 hi
    rw [keyAt_eq a] at b
    have : r ∈ xs.take (atK xs key) ++ xs[atK xs key] :: xs.drop (atK xs key + 1) := by rw [← List.drop_eq_getElem_cons a, List.take_append_drop]; exact hr
    rcases List.mem_append.1 this with h | h
    · exact List.mem_append_left _ h
    · rcases List.mem_cons.1 h with h | h
      · rw [h] at hk; exact absurd b hk
      · exact List.mem_append_right _ (List.mem_cons_of_mem _ h)
theorem putL_new {α : Type} {xs : List (Row α)} {key : ByteArray} {v : α} {ix : Int} {r0 : Row α} : putRow xs key v ix ∈ putL xs key v ix r0 := by rw [putL_split]; simp
theorem atIs_put {α : Type} {xs : List (Row α)} {key q : ByteArray} {v : α} {ix : Int} {r0 : Row α} (hs : Srt xs) (h : atIs xs q = true) : atIs (putL xs key v ix r0) q = true := by
  have hs' := putL_srt (key := key) (v := v) (ix := ix) (r0 := r0) hs
  by_cases e : q = key
  · subst e; exact atIs_mem hs' (r := putRow xs q v ix) putL_new
  · rw [atIs_any hs, List.any_eq_true] at h
    obtain ⟨r, hr, hq⟩ := h
    have hq := of_decide_eq_true hq
    rw [← hq]
    exact atIs_mem hs' (putL_mem' hr (by rw [hq]; exact e))
theorem thereB_put {xs : List (Row Nod)} {key : ByteArray} {v : Nod} {ix : Int} {r0 : Row Nod} {m : Int} (hs : Srt xs) (h : thereB xs m = true) : thereB (putL xs key v ix r0) m = true := by
  unfold thereB at *
  simp only [Bool.and_eq_true] at *
  exact ⟨h.1, atIs_put hs h.2⟩
theorem atIs_filter {α : Type} {xs : List (Row α)} {p : Row α → Bool} {q : ByteArray} (hs : Srt xs) (h : atIs xs q = true) (hp : ∀ r, r ∈ xs → r.key = q → p r = true) : atIs (xs.filter p) q = true := by
  rw [atIs_any hs, List.any_eq_true] at h
  obtain ⟨r, hr, hq⟩ := h
  have hq := of_decide_eq_true hq
  rw [← hq]
  exact atIs_mem (hs.sub List.filter_sublist) (List.mem_filter.2 ⟨hr, hp r hr hq⟩)
theorem atIs_drop {α : Type} {xs : List (Row α)} {key q : ByteArray} (hs : Srt xs) (h : atIs xs q = true) (hn : q ≠ key) : atIs (dropL xs key) q = true := by
  rw [dropL_filter hs]
  exact atIs_filter hs h fun r _ e => by rw [e]; simpa using hn
section
variable {R : Rst}
theorem nodeR_whl (w : RWf R) (H : Whl R) {n ix : Int} {addr : ByteArray} : Whl (nodeR R n addr ix) := by
  unfold nodeR
  split
  · exact H
  split
  · exact H
  · rename_i h2
    have h2 : addr.size ≤ 32 := by simp at h2; omega
    cases hf : putFull R.most R.n (digitS n) with
    | true => exact ⟨H.n, H.s, H.c⟩
    | false =>
      refine ⟨fun r hr => ?_, fun r hr => errS_mono (thereB_put w.sn) (H.s r hr), fun r hr => errC_mono (thereB_put w.sn) (fun _ h => h) (H.c r hr)⟩
      rcases putL_mem hr with hr | rfl
      · exact H.n r hr
      · exact h2
theorem dropNodeR_whl (k : RKey R) (w : RWf R) (H : Whl R) {n ix : Int} : Whl (dropNodeR R n ix) := by
  unfold dropNodeR
  cases hth : thereB R.n n with
  | false => exact H
  | true =>
    rw [if_pos rfl]
    have hn : rightN n = true := by unfold thereB at hth; simp only [Bool.and_eq_true] at hth; exact hth.1
    have hnd : ∀ m, m ≠ n → thereB R.n m = true → thereB (dropL R.n (digitS n)) m = true := fun m hm h => by
      unfold thereB at *
      simp only [Bool.and_eq_true] at *
      exact ⟨h.1, atIs_drop w.sn h.2 fun e => hm ((digitS_inj h.1 hn).1 e)⟩
    have hsv : ∀ m id, rightN m = true → m ≠ n → atIs R.s (keyS m id) = true → atIs (R.s.filter fun r => !decide (r.val.node = n)) (keyS m id) = true := fun m id hm hne h =>
      atIs_filter w.ss h fun r hr e => by
        obtain ⟨a, b⟩ := k.ks r hr
        rw [b] at e
        have := ((keyS_inj a hm).1 e).1
        simp [this, hne]
    refine ⟨fun r hr => H.n r ?_, fun r hr => ?_, fun r hr => ?_⟩
    · dsimp only at hr
      rw [dropL_filter w.sn] at hr
      exact (List.mem_filter.1 hr).1
    · obtain ⟨a, b⟩ := List.mem_filter.1 hr
      have b : r.val.node ≠ n := by simpa using b
      exact errS_mono (hnd _ b) (H.s r a)
    · obtain ⟨a, b⟩ := List.mem_filter.1 hr
      have b : r.val.node ≠ n := by simpa using b
      exact errC_mono (hnd _ b) (fun _ h => hsv _ _ (k.kc r a).1 b h) (H.c r a)
theorem svcR_whl (w : RWf R) (H : Whl R) {s : Svc} {ix : Int} : Whl (svcR R s ix) := by
  unfold svcR
  split
  · rename_i he
    cases hf : putFull R.most R.s (keyS s.node s.id) with
    | true => exact ⟨H.n, H.s, H.c⟩
    | false =>
      refine ⟨H.n, fun r hr => ?_, fun r hr => errC_mono (fun h => h) (fun _ h => atIs_put w.ss h) (H.c r hr)⟩
      rcases putL_mem hr with hr | rfl
      · exact H.s r hr
      · exact he
  · exact H
theorem dropSvcR_whl (k : RKey R) (w : RWf R) (H : Whl R) {n ix : Int} {id : ByteArray} : Whl (dropSvcR R n id ix) := by
  unfold dropSvcR
  cases hsi : svcIs R n id with
  | false => exact H
  | true =>
    rw [if_pos rfl]
    have hn : rightN n = true := by
      cases hn : rightN n with
      | true => rfl
      | false => rw [svcIs, hn] at hsi; cases hsi
    refine ⟨H.n, fun r hr => H.s r ?_, fun r hr => ?_⟩
    · dsimp only at hr
      rw [dropL_filter w.ss] at hr
      exact (List.mem_filter.1 hr).1
    · obtain ⟨a, b⟩ := List.mem_filter.1 hr
      refine errC_mono (fun h => h) (fun _ h => atIs_drop w.ss h fun e => ?_) (H.c r a)
      obtain ⟨e1, e2⟩ := (keyS_inj (k.kc r a).1 hn).1 e
      simp [e1, e2] at b
theorem chkR_whl (H : Whl R) {c : Chk} {ix : Int} : Whl (chkR R c ix) := by
  unfold chkR
  split
  · rename_i he
    cases hf : putFull R.most R.c (keyS c.node c.id) with
    | true => exact ⟨H.n, H.s, H.c⟩
    | false =>
      refine ⟨H.n, H.s, fun r hr => ?_⟩
      rcases putL_mem hr with hr | rfl
      · exact H.c r hr
      · exact he
  · exact H
theorem dropChkR_whl (w : RWf R) (H : Whl R) {n ix : Int} {id : ByteArray} : Whl (dropChkR R n id ix) := by
  unfold dropChkR
  split
  · refine ⟨H.n, H.s, fun r hr => H.c r ?_⟩
    dsimp only at hr
    rw [dropL_filter w.sc] at hr
    exact (List.mem_filter.1 hr).1
  · exact H
theorem stepR_whl (k : RKey R) (w : RWf R) (H : Whl R) (s : Stp) : Whl (stepR R s) := by
  unfold stepR
  repeat' split
  · exact nodeR_whl w H
  · exact dropNodeR_whl k w H
  · exact svcR_whl w H
  · exact dropSvcR_whl k w H
  · exact chkR_whl H
  · exact dropChkR_whl w H
  · exact H
end
theorem rst0_whl (most : Int) : Whl (rst0 most) := ⟨fun _ h => absurd h List.not_mem_nil, fun _ h => absurd h List.not_mem_nil, fun _ h => absurd h List.not_mem_nil⟩

/-! ### What is told of a node is its own -/
def cntF {α : Type} (f : α → Int) (ss : List α) (ns : List Int) : Nat := (ns.map fun n => (ss.filter fun s => decide (f s = n)).length).sum
theorem cntF_succ {α : Type} {f : α → Int} {ss : List α} {ns : List Int} {k : Nat} (hk : k < ns.length) : cntF f ss (ns.take (k + 1)) = cntF f ss (ns.take k) + (ss.filter fun s => decide (f s = ns[k])).length := by
  unfold cntF
  rw [List.take_add_one, List.getElem?_eq_getElem hk, List.map_append, List.sum_append]; simp
theorem cntF_one {α : Type} {f : α → Int} (s : α) : ∀ (ns : List Int), ns.Nodup → f s ∈ ns → cntF f [s] ns = 1
  | [], _, h => absurd h List.not_mem_nil
  | n :: ns, hd, h => by
    have hz : ∀ (ns : List Int), f s ∉ ns → cntF f [s] ns = 0 := by
      intro ns
      induction ns with
      | nil => intro _; rfl
      | cons m ns ih =>
        intro hm
        simp only [List.mem_cons, not_or] at hm
        have := ih hm.2
        unfold cntF at *
        rw [List.map_cons, List.sum_cons, this]
        simp [hm.1]
    rw [List.nodup_cons] at hd
    by_cases e : f s = n
    · have := hz ns (by rw [e]; exact hd.1)
      unfold cntF at *
      rw [List.map_cons, List.sum_cons, this]
      simp [e]
    · have hm : f s ∈ ns := by
        rcases List.mem_cons.1 h with h | h
        · exact absurd h e
        · exact h
      have := cntF_one s ns hd.2 hm
      unfold cntF at *
      rw [List.map_cons, List.sum_cons, this]
      simp [e]
theorem cntF_cons {α : Type} {f : α → Int} (s : α) (ss : List α) : ∀ (ns : List Int), cntF f (s :: ss) ns = cntF f [s] ns + cntF f ss ns
  | [] => rfl
  | n :: ns => by
    have := cntF_cons (f := f) s ss ns
    unfold cntF at *
    rw [List.map_cons, List.sum_cons, List.map_cons, List.sum_cons, List.map_cons, List.sum_cons, this]
    by_cases e : f s = n <;> simp [e] <;> omega
theorem cntF_all {α : Type} {f : α → Int} {ns : List Int} (hd : ns.Nodup) : ∀ (ss : List α), (∀ s, s ∈ ss → f s ∈ ns) → cntF f ss ns = ss.length
  | [], _ => by
    unfold cntF
    induction ns with
    | nil => rfl
    | cons n ns ih => rw [List.map_cons, List.sum_cons, ih (List.nodup_cons.1 hd).2 (fun _ h => absurd h List.not_mem_nil)]; rfl
  | s :: ss, h => by
    rw [cntF_cons, cntF_one s ns hd (h s (by simp)), cntF_all hd ss fun x hx => h x (by simp [hx]), List.length_cons]; omega
theorem strLt_irr' {a : ByteArray} (h : strLt a a = true) : False := by rw [strLt_irrefl] at h; cases h
def nodesOf (R : Rst) : List Int := (R.n.map toldN).map (·.node)
theorem nodes_nodup {R : Rst} (k : RKey R) (w : RWf R) : (nodesOf R).Nodup := by
  have h := srt_iff.1 w.sn
  unfold nodesOf
  rw [List.map_map, List.nodup_iff_pairwise_ne, List.pairwise_map]
  rw [List.pairwise_map] at h
  refine h.imp_of_mem fun {a b} ha hb hab e => ?_
  have e : a.val.node = b.val.node := e
  rw [(k.kn a ha).2, (k.kn b hb).2, e] at hab
  exact strLt_irr' hab
theorem there_mem {R : Rst} (k : RKey R) (w : RWf R) {m : Int} (h : thereB R.n m = true) : m ∈ nodesOf R := by
  rw [thereB_eq k w, rfThere, List.any_eq_true] at h
  obtain ⟨x, hx, e⟩ := h
  have e : x.node = m := of_decide_eq_true e
  exact e ▸ List.mem_map_of_mem hx
theorem whole_s {R : Rst} (k : RKey R) (w : RWf R) (H : Whl R) : cntF (·.node) (R.s.map toldS) (nodesOf R) = (R.s.map toldS).length :=
  cntF_all (nodes_nodup k w) _ fun s hs => by
    obtain ⟨r, hr, rfl⟩ := List.mem_map.1 hs
    exact there_mem k w (errS_ok (H.s r hr)).2.2.2.2.2.2
theorem whole_c {R : Rst} (k : RKey R) (w : RWf R) (H : Whl R) : cntF (·.node) (R.c.map toldC) (nodesOf R) = (R.c.map toldC).length :=
  cntF_all (nodes_nodup k w) _ fun s hs => by
    obtain ⟨r, hr, rfl⟩ := List.mem_map.1 hs
    exact there_mem k w (errC_ok (H.c r hr)).2.2.2.2.2.2.1
/-- a check's service is told of its node -/
theorem whole_is {R : Rst} (k : RKey R) (w : RWf R) (H : Whl R) {c : Chk} (hc : c ∈ R.c.map toldC) : (decide (c.service = ⟨#[]⟩) || ((R.s.map toldS).filter fun s => decide (s.node = c.node)).any fun s => decide (s.id = c.service)) = true := by
  obtain ⟨r, hr, rfl⟩ := List.mem_map.1 hc
  obtain ⟨hn, _, _, _, _, _, _, hs⟩ := errC_ok (H.c r hr)
  rcases hs with hs | hs
  · have : (toldC r).service = ⟨#[]⟩ := hs
    rw [decide_eq_true this]; rfl
  · rw [Bool.or_eq_true]
    right
    have h2 : rfHas (tellR R) r.val.node r.val.service = true := by rw [rfHas_tell k w hn]; exact hs
    rw [rfHas, List.any_eq_true] at h2
    obtain ⟨s, hs1, hs2⟩ := h2
    simp only [sameS, Bool.and_eq_true] at hs2
    rw [List.any_eq_true]
    exact ⟨s, List.mem_filter.2 ⟨hs1, hs2.1⟩, hs2.2⟩
end Go.Sod
