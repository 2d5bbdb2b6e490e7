/-
  A tree of orders of a region, looked through once: a test that does not go through all orders. Conditions: none.
-/
import Derived.Test.YtemcklmfpapmpaaGreatCore18
namespace Go.Sod
set_option linter.unusedVariables false
set_option linter.unusedSimpArgs false

theorem ifn {b : Bool} (h : b = false) : ¬ b = true := by rw [h]; decide
def quietK : Kd → Bool | .pure => true | .read => true | _ => false
def kdN : Kd → Nat | .pure => 0 | .read => 1 | .grow => 2 | .mut => 3 | .seq => 4
theorem kdN_inj {a b : Kd} (h : Nat.beq (kdN a) (kdN b) = true) : a = b := by cases a <;> cases b <;> first | rfl | cases h
def hasRoot (j : Nat) : Tw → Bool
  | .nil => false
  | .op i _ _ => Nat.beq i j
  | .both a b => hasRoot j a || hasRoot j b
def subM (a b : Nat) : Bool := Nat.beq (Nat.land a b) a
def V (ap pre dsc : List Nat) (ks : List Kd) (n all : Nat) : Bool → Nat → Tw → Bool
  | br, E, .nil => !br && (rdy pre E n).isEmpty
  | br, E, .op i k t => Nat.blt i n && !(E.testBit i) && subM (pre.getD i 0) E && Nat.beq (kdN k) (kdN (ks.getD i .seq)) && (bif br then !quietK k else bif quietK k then subM (Nat.xor all (Nat.lor E (1 <<< i))) (Nat.lor (ap.getD i 0) (dsc.getD i 0)) else (rdy pre E n).all (Nat.beq i)) && V ap pre dsc ks n all false (Nat.lor E (1 <<< i)) t
  | br, E, .both a b => (br || (rdy pre E n).all fun j => hasRoot j a || hasRoot j b) && V ap pre dsc ks n all true E a && V ap pre dsc ks n all true E b

theorem subM_iff {a b : Nat} : subM a b = true ↔ ∀ k, a.testBit k = true → b.testBit k = true := land_eq
theorem lorBit (E j i : Nat) : (Nat.lor E (1 <<< j)).testBit i = (E.testBit i || decide (j = i)) := by
  show (E ||| (1 <<< j)).testBit i = _
  rw [Nat.testBit_or, Nat.one_shiftLeft, Nat.testBit_two_pow]
theorem xorBit (a b i : Nat) : (Nat.xor a b).testBit i = (a.testBit i ^^ b.testBit i) := by
  show (a ^^^ b).testBit i = _
  rw [Nat.testBit_xor]
theorem lorBit2 (a b i : Nat) : (Nat.lor a b).testBit i = (a.testBit i || b.testBit i) := by
  show (a ||| b).testBit i = _
  rw [Nat.testBit_or]
theorem landBit2 (a b i : Nat) : (Nat.land a b).testBit i = (a.testBit i && b.testBit i) := by
  show (a &&& b).testBit i = _
  rw [Nat.testBit_and]
theorem lor_swap (E i j : Nat) : Nat.lor (Nat.lor E (1 <<< i)) (1 <<< j) = Nat.lor (Nat.lor E (1 <<< j)) (1 <<< i) := by
  apply Nat.eq_of_testBit_eq
  intro k
  rw [lorBit, lorBit, lorBit, lorBit, Bool.or_assoc, Bool.or_assoc, Bool.or_comm (decide (i = k))]

/-- who is behind whom is so -/
def okD1 (pre : List Nat) (i d : Nat) : Nat → Bool
  | 0 => true
  | j + 1 => (bif d.testBit j then (pre.getD j 0).testBit i || !(Nat.beq (Nat.land (Nat.land (pre.getD j 0) d) ((1 <<< j) - 1)) 0) else true) && okD1 pre i d j
def okD (pre : List Nat) (n : Nat) : Nat → List Nat → Bool
  | _, [] => true
  | i, d :: r => okD1 pre i d n && Nat.blt d (1 <<< n) && okD pre n (i + 1) r
/-- who changes places is of such kinds -/
def okK1 (ks : List Kd) (i m : Nat) : Nat → Bool
  | 0 => true
  | j + 1 => (bif m.testBit j then kindsOk (ks.getD i .seq) (ks.getD j .seq) else true) && okK1 ks i m j
def okK (ks : List Kd) (n : Nat) : Nat → List Nat → Bool
  | _, [] => true
  | i, m :: r => okK1 ks i m n && okK ks n (i + 1) r

theorem okK1_spec {ks : List Kd} {i m : Nat} : ∀ {n j : Nat}, okK1 ks i m n = true → j < n → m.testBit j = true → kindsOk (ks.getD i .seq) (ks.getD j .seq) = true := by
  intro n
  induction n with
  | zero => intro j _ h; omega
  | succ n ih =>
    intro j h hj hb
    simp only [okK1, Bool.and_eq_true] at h
    by_cases e : j = n
    · subst e; have := h.1; rwa [hb, cond_true] at this
    · exact ih h.2 (by omega) hb
theorem okK_spec {ks : List Kd} {n : Nat} : ∀ {l : List Nat} {m i j : Nat}, okK ks n m l = true → j < n → (l.getD i 0).testBit j = true → kindsOk (ks.getD (m + i) .seq) (ks.getD j .seq) = true := by
  intro l
  induction l with
  | nil => intro m i j _ _ h; simp at h
  | cons x l ih =>
    intro m i j h hj hb
    simp only [okK, Bool.and_eq_true] at h
    cases i with
    | zero => exact okK1_spec h.1 hj (by simpa using hb)
    | succ i =>
      have := ih (i := i) h.2 hj (by simpa using hb)
      rwa [show m + 1 + i = m + (i + 1) by omega] at this
theorem okD1_spec {pre : List Nat} {i d : Nat} : ∀ {n j : Nat}, okD1 pre i d n = true → j < n → d.testBit j = true → (pre.getD j 0).testBit i = true ∨ ∃ p, p < j ∧ (pre.getD j 0).testBit p = true ∧ d.testBit p = true := by
  intro n
  induction n with
  | zero => intro j _ h; omega
  | succ n ih =>
    intro j h hj hb
    simp only [okD1, Bool.and_eq_true] at h
    by_cases e : j = n
    · subst e
      have h1 := h.1
      rw [hb, cond_true, Bool.or_eq_true] at h1
      rcases h1 with h1 | h1
      · exact .inl h1
      · right
        have hne : Nat.land (Nat.land (pre.getD j 0) d) ((1 <<< j) - 1) ≠ 0 := fun e => by rw [e] at h1; cases h1
        obtain ⟨p, hp⟩ := Nat.exists_testBit_of_ne_zero hne
        rw [landBit2, landBit2, Nat.one_shiftLeft, Nat.testBit_two_pow_sub_one] at hp
        simp only [Bool.and_eq_true, decide_eq_true_eq] at hp
        exact ⟨p, hp.2, hp.1.1, hp.1.2⟩
    · exact ih h.2 (by omega) hb
theorem okD_spec {pre : List Nat} {n : Nat} : ∀ {l : List Nat} {m i j : Nat}, okD pre n m l = true → (l.getD i 0).testBit j = true → j < n ∧ ((pre.getD j 0).testBit (m + i) = true ∨ ∃ p, p < j ∧ (pre.getD j 0).testBit p = true ∧ (l.getD i 0).testBit p = true) := by
  intro l
  induction l with
  | nil => intro m i j _ h; simp at h
  | cons x l ih =>
    intro m i j h hb
    simp only [okD, Bool.and_eq_true] at h
    cases i with
    | zero =>
      have hj : j < n := by
        refine Nat.lt_of_not_le fun hle => ?_
        have hx : x < 2 ^ n := by
          have := h.1.2
          rw [Nat.blt_eq, Nat.one_shiftLeft] at this
          exact this
        have : x.testBit j = false := Nat.testBit_lt_two_pow (Nat.lt_of_lt_of_le hx (Nat.pow_le_pow_right (by omega) hle))
        simp at hb
        rw [this] at hb; cases hb
      exact ⟨hj, okD1_spec h.1.1 hj (by simpa using hb)⟩
    | succ i =>
      have := ih (i := i) h.2 (by simpa using hb)
      rw [show m + 1 + i = m + (i + 1) by omega] at this
      simpa using this

section
variable {ap pre dsc : List Nat} {ks : List Kd} {n all : Nat}
def ClosedE (pre : List Nat) (E : Nat) : Prop := ∀ p, E.testBit p = true → ∀ k, (pre.getD p 0).testBit k = true → E.testBit k = true
theorem dsc_sound (hd : okD pre n 0 dsc = true) {E : Nat} (hc : ClosedE pre E) {i : Nat} : ∀ (m j : Nat), j ≤ m → (dsc.getD i 0).testBit j = true → (∀ k, (pre.getD j 0).testBit k = true → E.testBit k = true) → E.testBit i = true := by
  intro m
  induction m with
  | zero =>
    intro j hj hb hp
    obtain ⟨_, h | ⟨p, h, _⟩⟩ := okD_spec hd hb
    · rw [Nat.zero_add] at h; exact hp i h
    · omega
  | succ m ih =>
    intro j hj hb hp
    obtain ⟨_, h | ⟨p, h1, h2, h3⟩⟩ := okD_spec hd hb
    · rw [Nat.zero_add] at h; exact hp i h
    · exact ih p (by omega) h3 (hc p (hp p h2))
theorem ClosedE.step {E j : Nat} (hc : ClosedE pre E) (hj : ∀ k, (pre.getD j 0).testBit k = true → E.testBit k = true) : ClosedE pre (Nat.lor E (1 <<< j)) := by
  intro p hp k hk
  rw [lorBit] at hp ⊢
  simp only [Bool.or_eq_true, decide_eq_true_eq] at hp ⊢
  rcases hp with hp | rfl
  · exact .inl (hc p hp k hk)
  · exact .inl (hj k hk)
theorem quiet_not {k kj : Kd} (h : quietK k = false) : kindsOk k kj = false := by cases k <;> simp [quietK, kindsOk] at *
theorem pull_root {j : Nat} : ∀ (t : Tw) (E : Nat), V ap pre dsc ks n all true E t = true →
    (hasRoot j t = true → ∃ t', pull ap j t = some (ks.getD j .seq, t') ∧ V ap pre dsc ks n all false (Nat.lor E (1 <<< j)) t' = true) ∧ (hasRoot j t = false → pull ap j t = none) := by
  intro t
  induction t with
  | nil => intro E h; simp [V] at h
  | op i k t ih =>
    intro E h
    simp only [V, Bool.and_eq_true, cond_true, Bool.not_eq_true'] at h
    obtain ⟨⟨⟨⟨⟨h1, h2⟩, h3⟩, h4⟩, h5⟩, h6⟩ := h
    refine ⟨fun hr => ?_, fun hr => ?_⟩
    · have e : i = j := Nat.eq_of_beq_eq_true hr
      subst e
      exact ⟨t, by simp [pull, kdN_inj h4], h6⟩
    · simp only [hasRoot] at hr
      simp only [pull, hr, cond_false]
      cases hp : pull ap j t with
      | none => rfl
      | some x => simp [quiet_not h5]
  | both a b iha ihb =>
    intro E h
    simp only [V, Bool.true_or, Bool.true_and, Bool.and_eq_true] at h
    refine ⟨fun hr => ?_, fun hr => ?_⟩
    · simp only [hasRoot, Bool.or_eq_true] at hr
      cases ha : hasRoot j a with
      | true =>
        obtain ⟨t', h1, h2⟩ := (iha E h.1).1 ha
        exact ⟨t', by simp [pull, h1], h2⟩
      | false =>
        rw [ha] at hr
        obtain ⟨t', h1, h2⟩ := (ihb E h.2).1 (by simpa using hr)
        exact ⟨t', by simp [pull, (iha E h.1).2 ha, h1], h2⟩
    · simp only [hasRoot, Bool.or_eq_false_iff] at hr
      simp [pull, (iha E h.1).2 hr.1, (ihb E h.2).2 hr.2]
theorem pull_V (hd : okD pre n 0 dsc = true) (hk : okK ks n 0 ap = true) (hall : ∀ k, k < n → all.testBit k = true) {j : Nat} : ∀ (t : Tw) (E : Nat), ClosedE pre E → V ap pre dsc ks n all false E t = true → j ∈ rdy pre E n →
    ∃ t', pull ap j t = some (ks.getD j .seq, t') ∧ V ap pre dsc ks n all false (Nat.lor E (1 <<< j)) t' = true := by
  intro t
  induction t with
  | nil =>
    intro E _ h hj
    simp only [V, Bool.not_false, Bool.true_and, List.isEmpty_iff] at h
    rw [h] at hj; cases hj
  | both a b iha ihb =>
    intro E hc h hj
    simp only [V, Bool.false_or, Bool.and_eq_true, List.all_eq_true] at h
    have hr := h.1.1 j hj
    have := (pull_root (ap := ap) (pre := pre) (dsc := dsc) (ks := ks) (n := n) (all := all) (j := j) (.both a b) E (by simp [V, h.1.2, h.2])).1 (by simpa [hasRoot] using hr)
    exact this
  | op i k t ih =>
    intro E hc h hj
    simp only [V, Bool.and_eq_true, cond_false] at h
    obtain ⟨⟨⟨⟨⟨h1, h2⟩, h3⟩, h4⟩, h5⟩, h6⟩ := h
    cases hij : Nat.beq i j with
    | true =>
      have e : i = j := Nat.eq_of_beq_eq_true hij
      subst e
      exact ⟨t, by simp [pull, kdN_inj h4], h6⟩
    | false =>
      have hne : i ≠ j := fun e => by subst e; simp [Nat.beq_refl] at hij
      obtain ⟨j1, j2, j3⟩ := mem_rdy.1 hj
      have j3' := land_eq.1 j3
      cases hq : quietK k with
      | false =>
        rw [hq, cond_false, List.all_eq_true] at h5
        exact absurd (Nat.eq_of_beq_eq_true (h5 j hj)) hne
      | true =>
        rw [hq, cond_true] at h5
        have hE' := hc.step (subM_iff.1 h3)
        obtain ⟨t'', p1, p2⟩ := ih (Nat.lor E (1 <<< i)) hE' h6 (mem_rdy.2 ⟨j1, by rw [lorBit, j2]; simpa using hne, land_eq.2 fun q hq => by rw [lorBit, j3' q hq]; rfl⟩)
        have hb := subM_iff.1 h5 j (by rw [xorBit, lorBit, hall j j1, j2]; simp [hne])
        rw [lorBit2, Bool.or_eq_true] at hb
        have hap : (ap.getD i 0).testBit j = true := by
          rcases hb with hb | hb
          · exact hb
          · have := dsc_sound hd hc j j (Nat.le_refl _) hb j3'
            rw [this] at h2; cases h2
        have hkk := okK_spec hk j1 hap
        rw [Nat.zero_add] at hkk
        refine ⟨.op i k t'', ?_, ?_⟩
        · rw [← kdN_inj h4] at hkk
          simp [pull, hij, p1, hkk, -List.getD_eq_getElem?_getD, hap]
        · have q2 : (Nat.lor E (1 <<< j)).testBit i = false := by
            rw [lorBit]; simp at h2; simp [h2, Ne.symm hne]
          have q3 : subM (pre.getD i 0) (Nat.lor E (1 <<< j)) = true := subM_iff.2 fun q hq => by rw [lorBit, subM_iff.1 h3 q hq]; rfl
          have q5 : subM (Nat.xor all (Nat.lor (Nat.lor E (1 <<< j)) (1 <<< i))) (Nat.lor (ap.getD i 0) (dsc.getD i 0)) = true := subM_iff.2 fun q hq => by
            by_cases e : j = q
            · subst e; rw [lorBit2, hap]; rfl
            · refine subM_iff.1 h5 q ?_
              rw [xorBit, lorBit] at hq ⊢
              rw [lorBit] at hq
              simpa [e] using hq
          rw [V, h1, q2, q3, h4, hq, cond_true, cond_false, q5, lor_swap E j i, p2]; rfl

def remE (E : Nat) : Nat → Nat
  | 0 => 0
  | n + 1 => remE E n + (bif E.testBit n then 0 else 1)
theorem remE_le (E j : Nat) : ∀ n, remE (Nat.lor E (1 <<< j)) n ≤ remE E n := by
  intro n
  induction n with
  | zero => exact Nat.le_refl _
  | succ n ih =>
    simp only [remE, lorBit]
    cases E.testBit n <;> cases decide (j = n) <;> simp only [Bool.or_true, Bool.or_false, Bool.true_or, Bool.false_or, cond_true, cond_false] <;> omega
theorem remE_lt {E j : Nat} (hj : E.testBit j = false) : ∀ n, j < n → remE (Nat.lor E (1 <<< j)) n + 1 ≤ remE E n := by
  intro n
  induction n with
  | zero => intro h; omega
  | succ n ih =>
    intro h
    by_cases e : j = n
    · subst e
      have := remE_le E j j
      simp only [remE, lorBit, hj, decide_true, Bool.or_true, cond_true, cond_false]
      omega
    · have := ih (by omega)
      simp only [remE, lorBit]
      have hd : decide (j = n) = false := by simpa using e
      rw [hd, Bool.or_false]; omega
theorem V_nil {t : Tw} {E : Nat} (h : V ap pre dsc ks n all false E t = true) (hr : rdy pre E n = []) : t = .nil := by
  have root : ∀ (t : Tw) (E : Nat) (br : Bool), V ap pre dsc ks n all br E t = true → rdy pre E n = [] → t = .nil ∧ br = false := by
    intro t
    induction t with
    | nil => intro E br h _; cases br <;> simp_all [V]
    | op i k t ih =>
      intro E br h hr
      simp only [V, Bool.and_eq_true] at h
      obtain ⟨⟨⟨⟨⟨h1, h2⟩, h3⟩, h4⟩, h5⟩, h6⟩ := h
      have : i ∈ rdy pre E n := mem_rdy.2 ⟨Nat.blt_eq ▸ h1, by simpa using h2, h3⟩
      rw [hr] at this; cases this
    | both a b iha ihb =>
      intro E br h hr
      simp only [V, Bool.and_eq_true] at h
      have := (iha E true h.1.2 hr).2
      cases this
  exact (root t E false h hr).1
theorem good_V (hd : okD pre n 0 dsc = true) (hk : okK ks n 0 ap = true) (hall : ∀ k, k < n → all.testBit k = true) : ∀ (f : Nat) (E : Nat) (t : Tw), ClosedE pre E → V ap pre dsc ks n all false E t = true → remE E n ≤ f → good ap pre n f E t = true := by
  intro f
  induction f with
  | zero =>
    intro E t hc h hr
    have hn : rdy pre E n = [] := by
      rw [List.eq_nil_iff_forall_not_mem]
      intro j hj
      obtain ⟨j1, j2, _⟩ := mem_rdy.1 hj
      have := remE_lt j2 n j1
      omega
    obtain rfl := V_nil h hn
    simp [good, hn, Tw.isNil]
  | succ f ih =>
    intro E t hc h hr
    by_cases hn : rdy pre E n = []
    · obtain rfl := V_nil h hn
      simp [good, hn, Tw.isNil]
    · simp only [good, Bool.or_eq_true, Bool.and_eq_true, Bool.not_eq_true', List.all_eq_true]
      refine .inr ⟨by cases hx : rdy pre E n with | nil => exact absurd hx hn | cons => rfl, fun j hj => ?_⟩
      obtain ⟨t', p1, p2⟩ := pull_V hd hk hall t E hc h hj
      obtain ⟨j1, j2, j3⟩ := mem_rdy.1 hj
      rw [p1]
      refine ih _ t' (hc.step (land_eq.1 j3)) p2 ?_
      have := remE_lt j2 n j1
      omega
end
def okTree2 (ops : Array Oper) (ap pre dsc : List Nat) (ks : List Kd) (t : Tr) : Bool :=
  t.plain && okAp ops 0 ap && eqN pre (ops.toList.map fun o => preOf (edgesOf o)) && okD pre ops.size 0 dsc && okK ks ops.size 0 ap && V ap pre dsc ks ops.size ((1 <<< ops.size) - 1) false 0 t.tw
theorem okTree2_ok {ops : Array Oper} {ap pre dsc : List Nat} {ks : List Kd} {t : Tr} (h : okTree2 ops ap pre dsc ks t = true) : okTree ops ap pre t = true := by
  simp only [okTree2, Bool.and_eq_true] at h
  obtain ⟨⟨⟨⟨⟨h1, h2⟩, h3⟩, h4⟩, h5⟩, h6⟩ := h
  have hr : ∀ n, remE 0 n ≤ n := by
    intro n
    induction n with
    | zero => exact Nat.le_refl _
    | succ n ih => simp only [remE]; cases (0 : Nat).testBit n <;> simp <;> omega
  have := good_V h4 h5 (fun k hk => by rw [Nat.one_shiftLeft, Nat.testBit_two_pow_sub_one]; simpa using hk) ops.size 0 t.tw (fun p hp => by simp at hp) h6 (hr _)
  simp [okTree, h1, h2, h3, this]
theorem J.tree2 {C : Cx} {ds : List Deferred} {env : Env} {h : Hp} {L : List Hp} {Q : Exit → Act → World → Prop} {id : Nat} {ops : Array Oper} (t : Tr) (ap pre dsc : List Nat) (ks : List Kd) (hm : C.P.follows .mixedOrders = true) (he : edgesIn ops = true) (hok : okTree2 ops ap pre dsc ks t = true)
    (j : J C (WT C.r C.P ops Q t) ds env h L) : J C (wpc C (.region id ops true) Q) ds env h L := J.tree t ap pre hm he (okTree2_ok hok) j
end Go.Sod
