/-
  The roster is the document's roster: the plain law of what lets go, and of health. Conditions: none.
-/
import Derived.Test.YtemcklmfpapmpaaGreatX3
import Derived.Test.YtemcklmfpapmpaaGreatX5
import Derived.Test.YtemcklmfpapmpaaGreatRosLaw
namespace Go.Sod
set_option linter.unusedVariables false
set_option linter.unusedSimpArgs false

theorem split_at {α : Type} {xs : List α} {x : α} (h : x ∈ xs) : ∃ A B, xs = A ++ x :: B := List.append_of_mem h
theorem Srt.ne_left {α : Type} {A B : List (Row α)} {r x : Row α} (hs : Srt (A ++ r :: B)) (hx : x ∈ A ++ B) : x.key ≠ r.key := by
  have hp := srt_iff.1 hs
  simp only [List.map_append, List.map_cons, List.pairwise_append, List.pairwise_cons, List.mem_map] at hp
  obtain ⟨_, ⟨h2, _⟩, h3⟩ := hp
  intro e
  rcases List.mem_append.1 hx with h | h
  · have := h3 x.key ⟨x, h, rfl⟩ r.key (by simp)
    rw [e, strLt_irrefl] at this; cases this
  · have := h2 x.key ⟨x, h, rfl⟩
    rw [e, strLt_irrefl] at this; cases this
theorem dropL_filter {α : Type} {xs : List (Row α)} {key : ByteArray} (hs : Srt xs) : dropL xs key = xs.filter fun r => !decide (r.key = key) := by
  cases hi : atIs xs key with
  | false =>
    rw [dropL, if_neg (ifn hi), eq_comm, List.filter_eq_self]
    intro r hr
    by_cases e : r.key = key
    · rw [← e, atIs_mem hs hr] at hi; cases hi
    · simp [e]
  | true =>
    obtain ⟨a, b⟩ := atIs_iff.1 hi
    rw [keyAt_eq a] at b
    obtain ⟨A, B, e⟩ := split_at (List.getElem_mem a)
    generalize hr : xs[atK xs key] = r at e b
    subst b
    rw [e] at hs ⊢
    rw [(srt_mid hs).2, List.filter_append, List.filter_cons]
    have hA : A.filter (fun x => !decide (x.key = r.key)) = A := by
      rw [List.filter_eq_self]; intro x hx; simpa using hs.ne_left (x := x) (List.mem_append_left _ hx)
    have hB : B.filter (fun x => !decide (x.key = r.key)) = B := by
      rw [List.filter_eq_self]; intro x hx; simpa using hs.ne_left (x := x) (List.mem_append_right _ hx)
    rw [hA, hB]; simp
theorem atIs_any {α : Type} {xs : List (Row α)} {key : ByteArray} (hs : Srt xs) : atIs xs key = xs.any fun r => decide (r.key = key) := by
  rw [Bool.eq_iff_iff, List.any_eq_true]
  constructor
  · intro h
    obtain ⟨a, b⟩ := atIs_iff.1 h
    rw [keyAt_eq a] at b
    exact ⟨_, List.getElem_mem a, decide_eq_true b⟩
  · rintro ⟨r, hr, e⟩
    rw [← of_decide_eq_true e]
    exact atIs_mem hs hr
theorem any_mem {α : Type} {xs : List α} {p q : α → Bool} (h : ∀ x, x ∈ xs → p x = q x) : xs.any p = xs.any q := by
  induction xs with
  | nil => rfl
  | cons x xs ih => rw [List.any_cons, List.any_cons, h x (by simp), ih fun y hy => h y (by simp [hy])]
theorem told_filter {α β : Type} {xs : List α} {f : α → β} {p : α → Bool} {q : β → Bool} (h : ∀ x, x ∈ xs → q (f x) = p x) : (xs.map f).filter q = (xs.filter p).map f := by
  rw [List.filter_map]
  congr 1
  exact List.filter_congr fun x hx => h x hx
theorem told_filterN {α β : Type} {xs : List α} {f : α → β} {p : α → Bool} {q : β → Bool} (h : ∀ x, x ∈ xs → q (f x) = p x) : (xs.map f).filter (fun c => !q c) = (xs.filter fun x => !p x).map f :=
  told_filter fun x hx => by rw [h x hx]
theorem told_any {α β : Type} {xs : List α} {f : α → β} {p : α → Bool} {q : β → Bool} (h : ∀ x, x ∈ xs → q (f x) = p x) : (xs.map f).any q = xs.any p := by
  rw [List.any_map]
  exact any_mem fun x hx => h x hx
theorem told_last {α β : Type} {xs : List (Row α)} {f : Row α → β} {p : Row α → Bool} {q : β → Bool} {last ix : Int} (h : ∀ x, x ∈ xs → q (f x) = p x) : lastA (xs.map f) q last ix = lastD xs p last ix := by
  rw [lastA, told_any h, lastD]

section
variable {R : Rst} (k : RKey R) (w : RWf R)
include k w
omit w in
theorem there_out {n : Int} (hn : rightN n = false) : rfThere (tellR R) n = false := by
  rw [rfThere, List.any_eq_false]
  intro x hx
  obtain ⟨r, hr, rfl⟩ := List.mem_map.1 hx
  have := (k.kn r hr).1
  intro e
  have e : r.val.node = n := of_decide_eq_true e
  rw [e, hn] at this; cases this
theorem thereB_eq {n : Int} : thereB R.n n = rfThere (tellR R) n := by
  cases hn : rightN n with
  | true => exact thereB_tell k w hn
  | false => rw [there_out k hn, thereB, hn, Bool.false_and]
theorem svcIs_eq {n : Int} {id : ByteArray} : svcIs R n id = rfHas (tellR R) n id := by
  cases hn : rightN n with
  | true => rw [rfHas_tell k w hn, svcIs, hn]; simp
  | false =>
    rw [svcIs, hn]
    symm
    show rfHas (tellR R) n id = false
    rw [rfHas, List.any_eq_false]
    intro x hx
    obtain ⟨r, hr, rfl⟩ := List.mem_map.1 hx
    have := (k.ks r hr).1
    intro e
    have e : r.val.node = n := of_decide_eq_true (Bool.and_eq_true_iff.1 e).1
    rw [e, hn] at this; cases this
theorem chkIs_eq {n : Int} {id : ByteArray} : chkIs R n id = (tellR R).checks.any (sameC n id) := by
  cases hn : rightN n with
  | true => rw [chkIs, hn]; simp only [Bool.not_true, Bool.false_or, Bool.not_not]; exact (any_at w.sc (sameC_at k hn)).symm
  | false =>
    rw [chkIs, hn]
    symm
    show (tellR R).checks.any (sameC n id) = false
    rw [List.any_eq_false]
    intro x hx
    obtain ⟨r, hr, rfl⟩ := List.mem_map.1 hx
    have := (k.kc r hr).1
    intro e
    have e : r.val.node = n := of_decide_eq_true (Bool.and_eq_true_iff.1 e).1
    rw [e, hn] at this; cases this
theorem dropNodeE_tell {n : Int} : rfDropNE (tellR R) n = dropNodeE R n := by rw [rfDropNE, dropNodeE, thereB_eq k w]
theorem dropNodeR_tell {n ix : Int} : rfDropNW (tellR R) n ix = tellR (dropNodeR R n ix) := by
  unfold rfDropNW dropNodeR
  rw [← thereB_eq k w]
  cases hth : thereB R.n n with
  | false => rfl
  | true =>
    have hn : rightN n = true := by unfold thereB at hth; simp only [Bool.and_eq_true] at hth; exact hth.1
    have hat : atIs R.n (digitS n) = true := by unfold thereB at hth; simp only [Bool.and_eq_true] at hth; exact hth.2
    have e0 : (R.n.map toldN).filter (pN n) = (dropL R.n (digitS n)).map toldN := by rw [dropL_filter w.sn]; exact told_filterN (q := sameN n) (sameN_at k hn)
    simp only [Bool.not_true, Bool.false_eq_true, if_false, if_true, rfDropCs, rfDropSs, tellR, hat]
    rw [e0,
      told_filter (p := fun r : Row Svc => !decide (r.val.node = n)) (fun r hr => by simp only [pS, Bool.true_or, Bool.and_true]; rfl), told_filter (p := fun r : Row Chk => !decide (r.val.node = n)) (fun r hr => by simp only [pC, Bool.true_or, Bool.and_true]; rfl),
      told_last (p := fun r : Row Svc => decide (r.val.node = n)) (fun r hr => by simp only [pS, Bool.true_or, Bool.and_true]; rfl), told_last (p := fun r : Row Chk => decide (r.val.node = n)) (fun r hr => by simp only [pC, Bool.true_or, Bool.and_true]; rfl)]
theorem dropSvcE_tell {n : Int} {id : ByteArray} : rfDropSE (tellR R) n id = dropSvcE R n id := by
  rw [rfDropSE, dropSvcE, svcIs_eq k w]
  cases rfHas (tellR R) n id <;> rfl
theorem dropSvcR_tell {n ix : Int} {id : ByteArray} : rfDropSW (tellR R) n id ix = tellR (dropSvcR R n id ix) := by
  unfold rfDropSW dropSvcR
  rw [← svcIs_eq k w]
  cases hsi : svcIs R n id with
  | false => rfl
  | true =>
    have hn : rightN n = true := by
      cases hn : rightN n with
      | true => rfl
      | false => rw [svcIs, hn] at hsi; cases hsi
    have hq : ∀ r, r ∈ R.s → pS n false id (toldS r) = decide (r.key = keyS n id) := fun r hr => by
      rw [← sameS_at k hn r hr]; simp [pS, sameS]
    have hany : (R.s.map toldS).any (pS n false id) = true := by
      rw [told_any hq, ← atIs_any w.ss]
      rw [svcIs, hn] at hsi; simpa using hsi
    simp only [Bool.not_true, Bool.false_eq_true, if_false, if_true, rfDropCs, rfDropSs, tellR]
    rw [told_filterN hq, ← dropL_filter w.ss,
      told_filter (p := fun r : Row Chk => !(decide (r.val.node = n) && decide (r.val.service = id))) (fun r hr => by simp only [pC, Bool.false_or]; rfl),
      told_last (p := fun r : Row Chk => decide (r.val.node = n) && decide (r.val.service = id)) (fun r hr => by simp only [pC, Bool.false_or]; rfl), lastA, hany]
    rfl
theorem dropChkE_tell {n : Int} {id : ByteArray} : rfDropCE (tellR R) n id = dropChkE R n id := by
  rw [rfDropCE, dropChkE, chkIs_eq k w]
  cases (tellR R).checks.any (sameC n id) <;> rfl
theorem dropChkR_tell {n ix : Int} {id : ByteArray} : rfDropCW (tellR R) n id ix = tellR (dropChkR R n id ix) := by
  unfold rfDropCW dropChkR
  rw [← chkIs_eq k w]
  cases hsi : chkIs R n id with
  | false => rfl
  | true =>
    have hn : rightN n = true := by
      cases hn : rightN n with
      | true => rfl
      | false => rw [chkIs, hn] at hsi; cases hsi
    simp only [Bool.not_true, Bool.false_eq_true, if_false, if_true, tellR]
    rw [told_filterN (sameC_at k hn), ← dropL_filter w.sc]
omit k in
theorem dropNodeR_wf {n ix : Int} : RWf (dropNodeR R n ix) := by
  unfold dropNodeR
  split
  · have h1 : (dropL R.n (digitS n)).Sublist R.n := by rw [dropL_filter w.sn]; exact List.filter_sublist
    have h2 : (R.s.filter fun r => !decide (r.val.node = n)).Sublist R.s := List.filter_sublist
    have h3 : (R.c.filter fun r => !decide (r.val.node = n)).Sublist R.c := List.filter_sublist
    exact ⟨w.m1, w.m2, w.sn.sub h1, w.ss.sub h2, w.sc.sub h3, Nat.le_trans h1.length_le w.ln, Nat.le_trans h2.length_le w.ls, Nat.le_trans h3.length_le w.lc⟩
  · exact w
theorem dropNodeR_key {n ix : Int} : RKey (dropNodeR R n ix) := by
  unfold dropNodeR
  split
  · refine ⟨fun r hr => k.kn r ?_, fun r hr => k.ks r ((List.mem_filter.1 hr).1), fun r hr => k.kc r ((List.mem_filter.1 hr).1)⟩
    dsimp only at hr
    rw [dropL_filter w.sn] at hr
    exact (List.mem_filter.1 hr).1
  · exact k
omit k in
theorem dropSvcR_wf {n ix : Int} {id : ByteArray} : RWf (dropSvcR R n id ix) := by
  unfold dropSvcR
  split
  · have h2 : (dropL R.s (keyS n id)).Sublist R.s := by rw [dropL_filter w.ss]; exact List.filter_sublist
    have h3 : (R.c.filter fun r => !(decide (r.val.node = n) && decide (r.val.service = id))).Sublist R.c := List.filter_sublist
    exact ⟨w.m1, w.m2, w.sn, w.ss.sub h2, w.sc.sub h3, w.ln, Nat.le_trans h2.length_le w.ls, Nat.le_trans h3.length_le w.lc⟩
  · exact w
theorem dropSvcR_key {n ix : Int} {id : ByteArray} : RKey (dropSvcR R n id ix) := by
  unfold dropSvcR
  split
  · refine ⟨k.kn, fun r hr => k.ks r ?_, fun r hr => k.kc r ((List.mem_filter.1 hr).1)⟩
    dsimp only at hr
    rw [dropL_filter w.ss] at hr
    exact (List.mem_filter.1 hr).1
  · exact k
omit k in
theorem dropChkR_wf {n ix : Int} {id : ByteArray} : RWf (dropChkR R n id ix) := by
  unfold dropChkR
  split
  · have h3 : (dropL R.c (keyS n id)).Sublist R.c := by rw [dropL_filter w.sc]; exact List.filter_sublist
    exact ⟨w.m1, w.m2, w.sn, w.ss, w.sc.sub h3, w.ln, w.ls, Nat.le_trans h3.length_le w.lc⟩
  · exact w
theorem dropChkR_key {n ix : Int} {id : ByteArray} : RKey (dropChkR R n id ix) := by
  unfold dropChkR
  split
  · refine ⟨k.kn, k.ks, fun r hr => k.kc r ?_⟩
    dsimp only at hr
    rw [dropL_filter w.sc] at hr
    exact (List.mem_filter.1 hr).1
  · exact k
end
/-- a step -/
structure Stp where
  kind : Int
  node : Int
  text : ByteArray
  s : Svc
  c : Chk
  ix : Int
def stepR (R : Rst) (s : Stp) : Rst := if decide (s.kind = 0) = true then nodeR R s.node s.text s.ix else if decide (s.kind = 1) = true then dropNodeR R s.node s.ix else if decide (s.kind = 2) = true then svcR R s.s s.ix else if decide (s.kind = 3) = true then dropSvcR R s.node s.text s.ix else if decide (s.kind = 4) = true then chkR R s.c s.ix else if decide (s.kind = 5) = true then dropChkR R s.node s.text s.ix else R
def stepW (W : Rrf) (s : Stp) : Rrf := if decide (s.kind = 0) = true then rfNodeW W s.node s.text s.ix else if decide (s.kind = 1) = true then rfDropNW W s.node s.ix else if decide (s.kind = 2) = true then rfSvcW W s.s s.ix else if decide (s.kind = 3) = true then rfDropSW W s.node s.text s.ix else if decide (s.kind = 4) = true then rfChkW W s.c s.ix else if decide (s.kind = 5) = true then rfDropCW W s.node s.text s.ix else W
def stepB (R : Rst) (W : Rrf) (s : Stp) : Bool := if decide (s.kind = 0) = true then decide (nodeE R s.node s.text = rfNodeE W s.node s.text) else if decide (s.kind = 1) = true then decide (dropNodeE R s.node = rfDropNE W s.node) else if decide (s.kind = 2) = true then decide (svcE R s.s = rfSvcE W s.s) else if decide (s.kind = 3) = true then decide (dropSvcE R s.node s.text = rfDropSE W s.node s.text) else if decide (s.kind = 4) = true then decide (chkE R s.c = rfChkE W s.c) else if decide (s.kind = 5) = true then decide (dropChkE R s.node s.text = rfDropCE W s.node s.text) else if decide (s.kind = 6) = true then rosSame R W else true
theorem stepR_wf {R : Rst} (w : RWf R) (s : Stp) : RWf (stepR R s) := by
  unfold stepR
  repeat' split
  · exact nodeR_wf w
  · exact dropNodeR_wf w
  · exact svcR_wf w
  · exact dropSvcR_wf w
  · exact chkR_wf w
  · exact dropChkR_wf w
  · exact w
theorem stepR_key {R : Rst} (k : RKey R) (w : RWf R) (s : Stp) : RKey (stepR R s) := by
  unfold stepR
  repeat' split
  · exact nodeR_key k
  · exact dropNodeR_key k w
  · exact svcR_key k
  · exact dropSvcR_key k w
  · exact chkR_key k
  · exact dropChkR_key k w
  · exact k
theorem stepW_tell {R : Rst} (k : RKey R) (w : RWf R) (s : Stp) : stepW (tellR R) s = tellR (stepR R s) := by
  unfold stepW stepR
  rw [nodeR_tell k w, dropNodeR_tell k w, svcR_tell k w, dropSvcR_tell k w, chkR_tell k w, dropChkR_tell k w]
  repeat' split
  all_goals rfl
theorem stepB_tell {R : Rst} (k : RKey R) (w : RWf R) (s : Stp) : stepB R (tellR R) s = true := by
  unfold stepB
  rw [nodeE_tell k w, dropNodeE_tell k w, svcE_tell k w, dropSvcE_tell k w, chkE_tell k w, dropChkE_tell k w, rosSame_tell]
  repeat' split
  all_goals simp
end Go.Sod
