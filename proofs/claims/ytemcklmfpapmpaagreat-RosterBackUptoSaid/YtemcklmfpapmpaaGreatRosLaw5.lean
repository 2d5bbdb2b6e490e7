/-
  The plain law of loading again what is told of a roster. Conditions: none.
-/
import Derived.Test.YtemcklmfpapmpaaGreatRosLaw4
import Derived.Test.YtemcklmfpapmpaaGreatLoadLaw
namespace Go.Sod
set_option linter.unusedVariables false
set_option linter.unusedSimpArgs false

/-- a table's indexes are as they are to be -/
structure TI {α : Type} (xs : List (Row α)) (last t : Int) : Prop where
  r : ∀ r, r ∈ xs → r.made ≤ r.ix ∧ r.ix ≤ last
  top : last ≤ t
  low : 0 ≤ last
theorem TI.up {α : Type} {xs : List (Row α)} {last t t' : Int} (h : TI xs last t) (l : t ≤ t') : TI xs last t' := ⟨h.r, Int.le_trans h.top l, h.low⟩
theorem TI.sub {α : Type} {xs ys : List (Row α)} {last last' t ix : Int} (h : TI xs last t) (l : t ≤ ix) (hs : ∀ r, r ∈ ys → r ∈ xs) (hl : last' = last ∨ last' = max last ix) : TI ys last' ix := by
  have h1 := h.top
  have h2 := h.low
  refine ⟨fun r hr => ?_, by rcases hl with rfl | rfl <;> omega, by rcases hl with rfl | rfl <;> omega⟩
  have := h.r r (hs r hr)
  rcases hl with rfl | rfl <;> omega
theorem TI.put {α : Type} {xs : List (Row α)} {last t ix : Int} {key : ByteArray} {v : α} {r0 : Row α} (h : TI xs last t) (l : t ≤ ix) : TI (putL xs key v ix r0) (max last ix) ix := by
  have h1 := h.top
  have h2 := h.low
  refine ⟨fun r hr => ?_, by omega, by omega⟩
  rcases putL_mem hr with hr | rfl
  · have := h.r r hr; omega
  · refine ⟨?_, by simp [putRow]; omega⟩
    cases hi : atIs xs key with
    | false => simp [putRow, hi]
    | true =>
      obtain ⟨a, b⟩ := atIs_iff.1 hi
      have := h.r _ (List.getElem_mem a)
      simp [putRow, hi, a]; omega
theorem lastD_or {α : Type} (xs : List (Row α)) (p : Row α → Bool) (last ix : Int) : lastD xs p last ix = last ∨ lastD xs p last ix = max last ix := by
  unfold lastD; split
  · exact .inr rfl
  · exact .inl rfl
theorem dropL_mem {α : Type} {xs : List (Row α)} {key : ByteArray} (hs : Srt xs) (r : Row α) (h : r ∈ dropL xs key) : r ∈ xs := by
  rw [dropL_filter hs] at h; exact (List.mem_filter.1 h).1
structure Idx (R : Rst) (t : Int) : Prop where
  n : TI R.n R.l0 t
  s : TI R.s R.l1 t
  c : TI R.c R.l2 t
section
variable {R : Rst} {t : Int}
theorem Idx.up {t' : Int} (I : Idx R t) (l : t ≤ t') : Idx R t' := ⟨I.n.up l, I.s.up l, I.c.up l⟩
theorem stepR_idx (w : RWf R) (I : Idx R t) (s : Stp) (l : t ≤ s.ix) : Idx (stepR R s) s.ix := by
  have same : ∀ {α : Type} {xs : List (Row α)} {last : Int}, TI xs last t → TI xs last s.ix := fun h => h.up l
  unfold stepR
  repeat' split
  · unfold nodeR
    split
    · exact I.up l
    split
    · exact I.up l
    · cases hf : putFull R.most R.n (digitS s.node) with
      | true => exact I.up l
      | false => exact ⟨I.n.put l, I.s.up l, I.c.up l⟩
  · unfold dropNodeR
    split
    · refine ⟨I.n.sub l (fun r hr => dropL_mem w.sn r hr) ?_, I.s.sub l (fun r hr => (List.mem_filter.1 hr).1) (lastD_or _ _ _ _), I.c.sub l (fun r hr => (List.mem_filter.1 hr).1) (lastD_or _ _ _ _)⟩
      dsimp only
      split
      · exact .inr rfl
      · exact .inl rfl
    · exact I.up l
  · unfold svcR
    split
    · cases hf : putFull R.most R.s (keyS s.s.node s.s.id) with
      | true => exact I.up l
      | false => exact ⟨I.n.up l, I.s.put l, I.c.up l⟩
    · exact I.up l
  · unfold dropSvcR
    split
    · exact ⟨I.n.up l, I.s.sub l (fun r hr => dropL_mem w.ss r hr) (.inr rfl), I.c.sub l (fun r hr => (List.mem_filter.1 hr).1) (lastD_or _ _ _ _)⟩
    · exact I.up l
  · unfold chkR
    split
    · cases hf : putFull R.most R.c (keyS s.c.node s.c.id) with
      | true => exact I.up l
      | false => exact ⟨I.n.up l, I.s.up l, I.c.put l⟩
    · exact I.up l
  · unfold dropChkR
    split
    · exact ⟨I.n.up l, I.s.up l, I.c.sub l (fun r hr => dropL_mem w.sc r hr) (.inr rfl)⟩
    · exact I.up l
  · exact I.up l
theorem stepR_most (s : Stp) : (stepR R s).most = R.most := by
  unfold stepR
  repeat' split
  · unfold nodeR; repeat' split
    all_goals rfl
  · unfold dropNodeR; split <;> rfl
  · unfold svcR; split <;> rfl
  · unfold dropSvcR; split <;> rfl
  · unfold chkR; split <;> rfl
  · unfold dropChkR; split <;> rfl
  · rfl
end
theorem rst0_idx (most : Int) : Idx (rst0 most) 0 := ⟨⟨fun _ h => absurd h List.not_mem_nil, Int.le_refl _, Int.le_refl _⟩, ⟨fun _ h => absurd h List.not_mem_nil, Int.le_refl _, Int.le_refl _⟩, ⟨fun _ h => absurd h List.not_mem_nil, Int.le_refl _, Int.le_refl _⟩⟩

/-! ### Loading does not refuse -/
theorem pb_pairwise {α : Type} {S : Stg α} (ok : StgOk S) {told : Row α → α} {xs : List (Row α)} (hs : Srt xs) (hk : ∀ r, r ∈ xs → S.right (told r) = true ∧ S.kf (told r) = r.key) : (xs.map told).Pairwise (fun y x => S.pb y x = false) := by
  rw [List.pairwise_map]
  have h := srt_iff.1 hs
  rw [List.pairwise_map] at h
  refine h.imp_of_mem fun {a b} ha hb hab => ?_
  rw [ok.pb _ _ (hk b hb).1 (hk a ha).1, (hk a ha).2, (hk b hb).2, strLt_asymm hab, Bool.false_or]
  exact decide_eq_false fun e => by rw [e, strLt_irrefl] at hab; cases hab
theorem rfGo_all {α : Type} {S : Stg α} {ls : Rrf → List α} (T : StgL S ls) {last : Int} (Fix : Rrf → Prop) (hF : ∀ W x i, Fix W → Fix (S.W' W x i)) :
    ∀ (xs : List α) (prev : Option α) (W : Rrf), Fix W → (∀ x, x ∈ xs → S.made x ≤ S.ix x ∧ S.ix x ≤ last) → (∀ x, x ∈ xs → ∀ W, Fix W → ((ls W).length < 64 ∨ (ls W).any (T.same x) = true) → S.E' W x = 0) →
      (prev.toList ++ xs).Pairwise (fun y x => S.pb y x = false) → (∀ y, y ∈ ls W → ∃ p, prev = some p ∧ (y = p ∨ T.lt y p)) → (ls W).length + xs.length ≤ 64 → ∃ W1, rfGo S last prev xs W = some W1 := by
  intro xs
  induction xs with
  | nil => intro prev W _ _ _ _ _ _; exact ⟨W, rfl⟩
  | cons x xs ih =>
    intro prev W hW hi hE hp hl hn
    have b1 : pbO S prev x = false := by
      cases prev with
      | none => rfl
      | some y =>
        have := (List.pairwise_cons.1 hp).1 x (by simp)
        exact this
    have hall : ∀ y, y ∈ ls W → T.lt y x := fun y hy => by
      obtain ⟨p, rfl, h1⟩ := hl y hy
      have hpx := T.pb x p b1
      rcases h1 with rfl | h1
      · exact hpx
      · exact T.tr _ _ _ h1 hpx
    simp only [List.length_cons] at hn
    have b4 : S.E' W x = 0 := hE x (by simp) W hW (.inl (by omega))
    have e1 : ls (S.W' W x (S.made x)) = ls W ++ [T.mkx x (S.made x)] := by
      rw [T.ins W x _ b4]
      have := insI_new (same := T.same x) (gt := T.gt x) (setM := T.setM) (A := ls W) (B := []) (c := T.mkx x (S.made x)) (fun y hy => T.low x y (hall y hy)) (fun y hy => by cases hy)
      simpa using this
    have b5 : S.E' (S.W' W x (S.made x)) x = 0 := hE x (by simp) _ (hF _ _ _ hW) (.inr (by rw [e1, List.any_append]; simp [T.here]))
    have e2 : ls (S.W' (S.W' W x (S.made x)) x (S.ix x)) = ls W ++ [x] := by
      rw [T.ins _ x _ b5, e1, insI_here (fun y hy => T.low x y (hall y hy)) (T.here x _) (fun y hy => by cases hy), T.back]
    have hb : rfBad S last prev x W = false := by
      obtain ⟨q1, q2⟩ := hi x (by simp)
      unfold rfBad
      rw [b1, b4, b5, decide_eq_false (show ¬ S.ix x < S.made x by omega), decide_eq_false (show ¬ last < S.ix x by omega)]; rfl
    unfold rfGo
    rw [if_neg (ifn hb)]
    refine ih (some x) _ (hF _ _ _ (hF _ _ _ hW)) (fun y hy => hi y (by simp [hy])) (fun y hy => hE y (by simp [hy])) ?_ (fun y hy => ?_) (by rw [e2, List.length_append, List.length_singleton]; omega)
    · have := (List.pairwise_append.1 hp).2.1
      exact this
    · rw [e2] at hy
      rcases List.mem_append.1 hy with hy | hy
      · exact ⟨x, rfl, .inr (hall y hy)⟩
      · exact ⟨x, rfl, .inl (by simpa using hy)⟩
theorem rfNodeW_most (W : Rrf) (n : Int) (a : ByteArray) (i : Int) : (rfNodeW W n a i).most = W.most := by
  unfold rfNodeW
  repeat' split
  all_goals rfl
theorem rfSvcW_most (W : Rrf) (s : Svc) (i : Int) : (rfSvcW W s i).most = W.most := by
  unfold rfSvcW
  repeat' split
  all_goals rfl
theorem rfChkW_most (W : Rrf) (s : Chk) (i : Int) : (rfChkW W s i).most = W.most := by
  unfold rfChkW
  repeat' split
  all_goals rfl
theorem rfErrS_nodes {W V : Rrf} (h : W.nodes = V.nodes) (s : Svc) : rfErrS W s = rfErrS V s := by unfold rfErrS rfThere; rw [h]
theorem rfErrC_nodes {W V : Rrf} (h : W.nodes = V.nodes) (h2 : W.services = V.services) (c : Chk) : rfErrC W c = rfErrC V c := by unfold rfErrC rfThere rfHas; rw [h, h2]
theorem full_no {α : Type} {most : Int} {xs : List α} {b : Bool} (hm : most = 64) (h : xs.length < 64 ∨ b = true) : (!b && decide (most ≤ (xs.length : Int))) = false := by
  rcases h with h | rfl
  · rw [decide_eq_false (by omega), Bool.and_false]
  · rfl
/-- **What is told of a roster is loaded as it was.** -/
theorem load_told {R : Rst} {t : Int} (k : RKey R) (w : RWf R) (H : Whl R) (I : Idx R t) (hm : R.most = 64) :
    loadW 64 (R.n.map toldN) (R.s.map toldS) (R.c.map toldC) R.l0 R.l1 R.l2 = some (tellR R) := by
  have hc : clampM 64 = 64 := rfl
  unfold loadW
  have p1 := pb_pairwise (told := toldN) stgN_ok w.sn fun r hr => ⟨(k.kn r hr).1, (k.kn r hr).2.symm⟩
  have p2 := pb_pairwise (told := toldS) stgS_ok w.ss fun r hr => ⟨(k.ks r hr).1, (k.ks r hr).2.symm⟩
  have p3 := pb_pairwise (told := toldC) stgC_ok w.sc fun r hr => ⟨(k.kc r hr).1, (k.kc r hr).2.symm⟩
  obtain ⟨W1, e1⟩ := rfGo_all (last := R.l0) stgLN (fun W => W.most = 64) (fun W x i h => (rfNodeW_most W x.node x.addr i).trans h) (R.n.map toldN) none ⟨clampM 64, [], [], [], 0, 0, 0⟩ hc
    (fun x hx => by obtain ⟨r, hr, rfl⟩ := List.mem_map.1 hx; exact I.n.r r hr)
    (fun x hx W hW hq => by
      obtain ⟨r, hr, rfl⟩ := List.mem_map.1 hx
      show rfNodeE W r.val.node r.val.addr = 0
      have h2 := H.n r hr
      have hf : (!rfThere W r.val.node && decide (W.most ≤ (W.nodes.length : Int))) = false := full_no hW hq
      unfold rfNodeE
      rw [right_out, (k.kn r hr).1, if_neg (by decide), if_neg (by simp; omega), if_neg (ifn hf)])
    p1 (fun y hy => by cases hy) (by simpa using w.ln)
  rw [e1]
  dsimp only
  have n1 : W1.nodes = R.n.map toldN := rfGo_told stgLN _ none _ W1 (fun y hy => by cases hy) e1
  have s1 : W1.services = [] := rfGo_keeps (p := (·.services)) (fun W x i => (rfNodeW_keep W x.node x.addr i).1) _ none _ W1 e1
  have c1 : W1.checks = [] := rfGo_keeps (p := (·.checks)) (fun W x i => (rfNodeW_keep W x.node x.addr i).2.1) _ none _ W1 e1
  have m1 : W1.most = 64 := rfGo_keeps (p := (·.most)) (fun W x i => rfNodeW_most W x.node x.addr i) _ none _ W1 e1
  obtain ⟨W2, e2⟩ := rfGo_all (last := R.l1) stgLS (fun W => W.most = 64 ∧ W.nodes = R.n.map toldN) (fun W x i h => ⟨(rfSvcW_most W x i).trans h.1, (rfSvcW_keep W x i).1.trans h.2⟩) (R.s.map toldS) none W1 ⟨m1, n1⟩
    (fun x hx => by obtain ⟨r, hr, rfl⟩ := List.mem_map.1 hx; exact I.s.r r hr)
    (fun x hx W hW hq => by
      obtain ⟨r, hr, rfl⟩ := List.mem_map.1 hx
      show rfSvcE W (toldS r) = 0
      have h2 : rfErrS W (toldS r) = 0 := by rw [rfErrS_nodes (V := tellR R) hW.2, errS_tell k w]; exact H.s r hr
      have hf : (!rfHas W (toldS r).node (toldS r).id && decide (W.most ≤ (W.services.length : Int))) = false := full_no hW.1 hq
      unfold rfSvcE
      rw [if_pos h2, if_neg (ifn hf)])
    p2 (fun y hy => by rw [s1] at hy; cases hy) (by rw [s1]; simpa using w.ls)
  rw [e2]
  dsimp only
  have n2 : W2.nodes = R.n.map toldN := (rfGo_keeps (p := (·.nodes)) (fun W x i => (rfSvcW_keep W x i).1) _ none _ W2 e2).trans n1
  have s2 : W2.services = R.s.map toldS := by
    have := rfGo_told stgLS _ none _ W2 (fun y hy => by rw [s1] at hy; cases hy) e2
    rw [s1] at this; exact this
  have c2 : W2.checks = [] := (rfGo_keeps (p := (·.checks)) (fun W x i => (rfSvcW_keep W x i).2.1) _ none _ W2 e2).trans c1
  have m2 : W2.most = 64 := (rfGo_keeps (p := (·.most)) (fun W x i => rfSvcW_most W x i) _ none _ W2 e2).trans m1
  obtain ⟨W3, e3⟩ := rfGo_all (last := R.l2) stgLC (fun W => W.most = 64 ∧ W.nodes = R.n.map toldN ∧ W.services = R.s.map toldS) (fun W x i h => ⟨(rfChkW_most W x i).trans h.1, (rfChkW_keep W x i).1.trans h.2.1, (rfChkW_keep W x i).2.1.trans h.2.2⟩) (R.c.map toldC) none W2 ⟨m2, n2, s2⟩
    (fun x hx => by obtain ⟨r, hr, rfl⟩ := List.mem_map.1 hx; exact I.c.r r hr)
    (fun x hx W hW hq => by
      obtain ⟨r, hr, rfl⟩ := List.mem_map.1 hx
      show rfChkE W (toldC r) = 0
      have h2 : rfErrC W (toldC r) = 0 := by rw [rfErrC_nodes (V := tellR R) hW.2.1 hW.2.2, errC_tell k w]; exact H.c r hr
      have hf : (!rfIsC W (toldC r) && decide (W.most ≤ (W.checks.length : Int))) = false := full_no hW.1 hq
      unfold rfChkE
      rw [if_pos h2, if_neg (ifn hf)])
    p3 (fun y hy => by rw [c2] at hy; cases hy) (by rw [c2]; simpa using w.lc)
  rw [e3]
  dsimp only
  have n3 : W3.nodes = R.n.map toldN := (rfGo_keeps (p := (·.nodes)) (fun W x i => (rfChkW_keep W x i).1) _ none _ W3 e3).trans n2
  have s3 : W3.services = R.s.map toldS := (rfGo_keeps (p := (·.services)) (fun W x i => (rfChkW_keep W x i).2.1) _ none _ W3 e3).trans s2
  have c3 : W3.checks = R.c.map toldC := by
    have := rfGo_told stgLC _ none _ W3 (fun y hy => by rw [c2] at hy; cases hy) e3
    rw [c2] at this; exact this
  have m3 : W3.most = 64 := (rfGo_keeps (p := (·.most)) (fun W x i => rfChkW_most W x i) _ none _ W3 e3).trans m2
  rw [n3, s3, c3, m3, tellR, hm]
/-- the loaded one is told as it was -/
theorem back_law {R : Rst} {t : Int} (k : RKey R) (w : RWf R) (H : Whl R) (I : Idx R t) (hm : R.most = 64) :
    ∃ R', loadP 64 (R.n.map toldN) (R.s.map toldS) (R.c.map toldC) R.l0 R.l1 R.l2 = some R' ∧ tellR R' = tellR R ∧ RWf R' := by
  have law := load_law (most := 64) (ns := R.n.map toldN) (ss := R.s.map toldS) (cs := R.c.map toldC) I.n.low I.s.low I.c.low
  rw [load_told k w H I hm] at law
  obtain ⟨R', h1, h2, _, h4, _⟩ := law
  exact ⟨R', h1, h2, h4⟩
/-- what is told may be loaded: it is short -/
theorem told_svcSm {R : Rst} (H : Whl R) : ∀ s, s ∈ R.s.map toldS → SvcSm s := fun s hs => by
  obtain ⟨r, hr, rfl⟩ := List.mem_map.1 hs
  obtain ⟨_, _, _, h1, h2, h3, _⟩ := errS_ok (H.s r hr)
  have q1 := (nameB_size h1).2
  have q2 := (nameB_size h2).2
  refine ⟨show r.val.id.size ≤ maxL by unfold maxL; omega, show r.val.name.size ≤ maxL by unfold maxL; omega, fun x hx => ?_⟩
  unfold tagsB at h3
  rw [Bool.and_eq_true, List.all_eq_true] at h3
  have := (nameB_size (h3.2 x hx)).2
  unfold maxL; omega
theorem told_chkSm {R : Rst} (H : Whl R) : ∀ c, c ∈ R.c.map toldC → ChkSm c := fun c hc => by
  obtain ⟨r, hr, rfl⟩ := List.mem_map.1 hc
  obtain ⟨_, _, _, h1, h2, _⟩ := errC_ok (H.c r hr)
  have q1 := (nameB_size h1).2
  refine ⟨show r.val.id.size ≤ maxL by unfold maxL; omega, ?_⟩
  show r.val.service.size ≤ maxL
  rcases h2 with h2 | h2
  · rw [h2]; decide
  · have := (nameB_size h2).2
    unfold maxL; omega
end Go.Sod
