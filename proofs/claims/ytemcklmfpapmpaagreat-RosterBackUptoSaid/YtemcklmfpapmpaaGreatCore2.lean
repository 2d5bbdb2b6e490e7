/-
  A region that draws its order, walked once: operations that only read may float between those that make memory. Conditions: none.
-/
import Derived.Test.YtemcklmfpapmpaaGreatCore1
namespace Go.Sod

abbrev Fw (r : Option Nat) : Fence := { Fence.wide with round := r }

/-- What an operation does: computes · reads · makes memory, and turns nothing that lay there · writes · whatever. -/
inductive Kd where
  | pure | read | grow | mut | seq
  deriving DecidableEq

def botQ : Exit → Act → World → Prop := fun _ _ _ => False

def up (r : Option Nat) (P : Program) (o : Oper) (a : Act) (next : Act → World → Prop) (Q : Exit → Act → World → Prop) (w : World) : Prop :=
  o.uponIn (Fw r) 0 P a next Q ((o.semAt r a.eval).run P w)

theorem up_mono {r : Option Nat} {P : Program} {o : Oper} {a : Act} {K K' : Act → World → Prop} {Q Q' : Exit → Act → World → Prop} {w : World}
    (h : ∀ a w, K a w → K' a w) (hQ : ∀ e a w, Q e a w → Q' e a w) (hh : up r P o a K Q w) : up r P o a K' Q' w := by
  unfold up at *
  generalize (o.semAt r a.eval).run P w = z at *
  have hl : LetsOut Q → LetsOut Q' := fun ⟨a, w, h⟩ => ⟨a, w, hQ _ _ _ h⟩
  cases z with
  | ok x w' =>
    cases x <;> simp only [Oper.uponIn] at hh ⊢ <;>
      first
        | exact h _ _ hh
        | exact ⟨hh.1, CallsIn.mono hh.2 (fun e w'' he => by cases e <;> first | exact h _ _ he | exact hQ _ _ _ he | exact hl he)⟩
        | exact ⟨hh.1, RowsIn.mono hh.2 (fun _ _ he => h _ _ he)⟩
        | exact ⟨hh.1, RoundIn.mono hh.2 (fun e w'' he => by cases e <;> first | exact h _ _ he | exact hQ _ _ _ he | exact hl he)⟩
  | halt x w' => cases x <;> simp only [Oper.uponIn] at hh ⊢ <;> exact hQ _ _ _ hh


/-- An operation under another activation that evaluates it alike. -/
theorem up_act {r : Option Nat} {P : Program} {o : Oper} {a b : Act} {K K' : Act → World → Prop} {w : World}
    (he : o.semAt r a.eval = o.semAt r b.eval) (hds : a.defers = b.defers)
    (h : ∀ ds v w, K (({ a with defers := ds } : Act).put o.dst v) w → K' (({ b with defers := ds } : Act).put o.dst v) w)
    (hh : up r P o a K botQ w) : up r P o b K' botQ w := by
  have h0 : ∀ v w, K (a.put o.dst v) w → K' (b.put o.dst v) w := fun v w k => by
    have := h a.defers v w k
    rw [hds] at this
    exact this
  unfold up at *
  rw [he] at hh
  cases hz : (o.semAt r b.eval).run P w with
  | ok x w' =>
    rw [hz] at hh
    cases x <;> simp only [Oper.uponIn] at hh ⊢ <;>
      first
        | exact h0 _ _ hh
        | exact ⟨hh.1, CallsIn.mono hh.2 (fun e w'' he => by cases e <;> first | exact h0 _ _ he | exact he)⟩
        | exact ⟨hh.1, RowsIn.mono hh.2 (fun _ _ he => h0 _ _ he)⟩
        | exact ⟨hh.1, RoundIn.mono hh.2 (fun e w'' he => by cases e <;> first | exact h0 _ _ he | exact he)⟩
        | (rw [← hds]; exact h _ _ _ hh)
  | halt x w' =>
    rw [hz] at hh
    cases x <;> simp only [Oper.uponIn] at hh ⊢ <;> exact hh.elim

/-- One operation, and what is asked of it by its kind. -/
def stepK (r : Option Nat) (P : Program) (ops : Array Oper) (Q : Exit → Act → World → Prop) (o : Oper) (k : Kd) (K : Act → World → Prop) (a : Act) (w : World) : Prop :=
  if Region.wanted o (yielded ops a.tmps) = true then
    match k with
    | .pure => ∃ v, (∀ w', (o.semAt r a.eval).run P w' = .ok (.value v) w') ∧ K (a.put o.dst v) w
    | .read => ∃ v, (∀ w', GrowW w w' → (o.semAt r a.eval).run P w' = .ok (.value v) w') ∧ K (a.put o.dst v) w
    | .grow => up r P o a (fun a' w' => GrowW w w' ∧ K a' w') botQ w
    | .mut => up r P o a K botQ w
    | .seq => up r P o a K Q w
  else K (a.put o.dst undef) w

def WC (r : Option Nat) (P : Program) (ops : Array Oper) (Q : Exit → Act → World → Prop) : List (Oper × Kd) → Act → World → Prop
  | [], a, w => Q .normal a w
  | (o, k) :: rest, a, w => stepK r P ops Q o k (WC r P ops Q rest) a w

theorem stepK_mono {r : Option Nat} {P : Program} {ops : Array Oper} {Q : Exit → Act → World → Prop} {o : Oper} {k : Kd} {K K' : Act → World → Prop} {a : Act} {w : World}
    (h : ∀ a w, K a w → K' a w) (hh : stepK r P ops Q o k K a w) : stepK r P ops Q o k K' a w := by
  unfold stepK at *
  split
  · rename_i hw
    simp only [hw, if_true] at hh
    cases k <;> dsimp only at hh ⊢
    · obtain ⟨v, h1, h2⟩ := hh; exact ⟨v, h1, h _ _ h2⟩
    · obtain ⟨v, h1, h2⟩ := hh; exact ⟨v, h1, h _ _ h2⟩
    · exact up_mono (fun a w hk => ⟨hk.1, h _ _ hk.2⟩) (fun _ _ _ h => h) hh
    · exact up_mono h (fun _ _ _ h => h) hh
    · exact up_mono h (fun _ _ _ h => h) hh
  · rename_i hw
    rw [if_neg hw] at hh
    exact h _ _ hh

theorem stepK_wpOp {r : Option Nat} {P : Program} {ops : Array Oper} {Q : Exit → Act → World → Prop} {i : Nat} {o : Oper} {k : Kd} {K : Act → World → Prop} {a : Act} {w : World}
    (ho : ops[i]? = some o) (hh : stepK r P ops Q o k K a w) : wpOpIn (Fw r) 0 P ops Q i K a w := by
  unfold wpOpIn
  simp only [ho]
  unfold stepK at hh
  have toQ : ∀ (e : Exit) (a : Act) (w : World), botQ e a w → Q e a w := fun _ _ _ h => h.elim
  have val : ∀ v, (o.semAt r a.eval).run P w = .ok (.value v) w → K (a.put o.dst v) w → up r P o a K Q w := fun v h1 h2 => by
    unfold up; rw [h1]; exact h2
  split
  · rename_i hw
    simp only [hw, if_true] at hh
    have fin : up r P o a K Q w → o.wpIn (Fw r) 0 P a w K Q := fun h => ⟨fun _ _ => trivial, h⟩
    cases k <;> dsimp only at hh
    · obtain ⟨v, h1, h2⟩ := hh; exact fin (val v (h1 w) h2)
    · obtain ⟨v, h1, h2⟩ := hh; exact fin (val v (h1 w (GrowW.refl w)) h2)
    · exact fin (up_mono (fun _ _ h => h.2) toQ hh)
    · exact fin (up_mono (fun _ _ h => h) toQ hh)
    · exact fin hh
  · rename_i hw
    rw [if_neg hw] at hh
    exact ⟨fun _ _ => trivial, hh⟩

/-! ### Two operations change places -/
def kindsOk : Kd → Kd → Bool
  | .pure, .seq => false
  | .pure, _ => true
  | .read, .mut => false
  | .read, .seq => false
  | .read, _ => true
  | _, _ => false

def plainOp (o : Oper) : Bool := match o.op with
  | .select .. => false
  | .defer .. => false
  | _ => true
theorem plainOp_sel {o : Oper} (h : plainOp o = true) : ∀ cs b, o.op ≠ .select cs b := fun cs b e => by simp [plainOp, e] at h
theorem plainOp_def {o : Oper} (h : plainOp o = true) : ∀ c, o.op ≠ .defer c := fun c e => by simp [plainOp, e] at h

theorem defers_put (a : Act) (ds : List Deferred) (d : Option Tmp) (v : Value) : ({ a.put d v with defers := ds } : Act) = ({ a with defers := ds } : Act).put d v := by
  cases d <;> rfl
theorem put_defers (a : Act) (d : Option Tmp) (v : Value) : (a.put d v).defers = a.defers := by cases d <;> rfl

theorem stepK_swap {r : Option Nat} {P : Program} {ops : Array Oper} {Q : Exit → Act → World → Prop} {x y : Oper} {kx ky : Kd} {K : Act → World → Prop} {a : Act} {w : World}
    (hap : x.apart ops y = true) (hk : kindsOk kx ky = true) (px : plainOp x = true) (py : plainOp y = true)
    (hh : stepK r P ops Q x kx (stepK r P ops Q y ky K) a w) : stepK r P ops Q y ky (stepK r P ops Q x kx K) a w := by
  obtain ⟨h1, h2, h3⟩ := Oper.apart_spec hap
  have sx : ∀ b : Act, x.semAt r b.eval = execOp b.eval x := fun b => Oper.semAt_eq _ _ _ (plainOp_def px)
  have sy : ∀ b : Act, y.semAt r b.eval = execOp b.eval y := fun b => Oper.semAt_eq _ _ _ (plainOp_def py)
  have ex : ∀ (b : Act) u, execOp (b.put y.dst u).eval x = execOp b.eval x := fun b u => execOp_put x (plainOp_sel px) b y.dst u h3
  have ey : ∀ (b : Act) u, execOp (b.put x.dst u).eval y = execOp b.eval y := fun b u => execOp_put y (plainOp_sel py) b x.dst u h1
  have wx : ∀ (b : Act) u, Region.wanted x (yielded ops (b.put y.dst u).tmps) = Region.wanted x (yielded ops b.tmps) := fun b u => wanted_put x b y.dst u h3
  have wy : ∀ (b : Act) u, Region.wanted y (yielded ops (b.put x.dst u).tmps) = Region.wanted y (yielded ops b.tmps) := fun b u => wanted_put y b x.dst u h1
  have pc : ∀ (b : Act) v u, (b.put x.dst v).put y.dst u = (b.put y.dst u).put x.dst v := fun b v u => Act.put_comm b v u h2
  have dx : ∀ (b : Act) ds, execOp ({ b with defers := ds } : Act).eval x = execOp b.eval x := fun b ds => rfl
  have dwx : ∀ (b : Act) ds, Region.wanted x (yielded ops ({ b with defers := ds } : Act).tmps) = Region.wanted x (yielded ops b.tmps) := fun b ds => rfl
  -- the second's step, the first being passed over or having yielded v
  have second : ∀ v (G : World → Prop), stepK r P ops Q y ky (fun a' w' => K a' w') (a.put x.dst v) w → (∀ w', GrowW w w' → G w') → G w →
      (ky = .mut ∨ ky = .seq → ∀ w', G w') →
      stepK r P ops Q y ky (fun a' w' => G w' ∧ ∃ ds u, a' = (({ a with defers := ds } : Act).put y.dst u) ∧ K (a'.put x.dst v) w') a w := by
    intro v G hs hG hG0 hGm
    unfold stepK at *
    rw [wy] at hs
    split
    · rename_i hw
      simp only [hw, if_true] at hs
      cases ky <;> dsimp only at hs ⊢
      · obtain ⟨u, q1, q2⟩ := hs
        exact ⟨u, fun w' => by have := q1 w'; rw [sy, ey] at this; rw [sy]; exact this, hG0, a.defers, u, rfl, by rw [← pc]; exact q2⟩
      · obtain ⟨u, q1, q2⟩ := hs
        exact ⟨u, fun w' hg => by have := q1 w' hg; rw [sy, ey] at this; rw [sy]; exact this, hG0, a.defers, u, rfl, by rw [← pc]; exact q2⟩
      · refine up_act (by rw [sy, sy, ey]) (put_defers _ _ _) ?_ hs
        rintro ds u w' ⟨q1, q2⟩
        refine ⟨q1, hG _ q1, ds, u, rfl, ?_⟩
        rw [defers_put] at q2
        rw [← pc]; exact q2
      · refine up_act (by rw [sy, sy, ey]) (put_defers _ _ _) ?_ hs
        intro ds u w' q2
        refine ⟨hGm (.inl rfl) _, ds, u, rfl, ?_⟩
        rw [defers_put] at q2
        rw [← pc]; exact q2
      · exact absurd hk (by cases kx <;> simp [kindsOk])
    · rename_i hw
      rw [if_neg hw] at hs
      exact ⟨hG0, a.defers, undef, rfl, by rw [← pc]; exact hs⟩
  unfold stepK at hh
  split at hh
  · rename_i hwx
    cases kx <;> dsimp only at hh
    · obtain ⟨v, q1, q2⟩ := hh
      refine stepK_mono ?_ (second v (fun _ => True) q2 (fun _ _ => trivial) trivial (fun _ _ => trivial))
      rintro a' w' ⟨_, ds, u, rfl, q3⟩
      unfold stepK
      rw [wx, dwx, if_pos hwx]
      exact ⟨v, fun w'' => by rw [sx, ex, dx, ← sx]; exact q1 w'', q3⟩
    · obtain ⟨v, q1, q2⟩ := hh
      refine stepK_mono ?_ (second v (fun w' => GrowW w w') q2 (fun _ h => h) (GrowW.refl w) (fun e => by rcases e with rfl | rfl <;> simp [kindsOk] at hk))
      rintro a' w' ⟨hg, ds, u, rfl, q3⟩
      unfold stepK
      rw [wx, dwx, if_pos hwx]
      exact ⟨v, fun w'' hg' => by rw [sx, ex, dx, ← sx]; exact q1 w'' (hg.trans hg'), q3⟩
    · simp [kindsOk] at hk
    · simp [kindsOk] at hk
    · simp [kindsOk] at hk
  · rename_i hwx
    refine stepK_mono ?_ (second undef (fun _ => True) hh (fun _ _ => trivial) trivial (fun _ _ => trivial))
    rintro a' w' ⟨_, ds, u, rfl, q3⟩
    unfold stepK
    rw [wx, dwx, if_neg hwx]
    exact q3

/-! ### The whole region -/
def edgesOf (o : Oper) : List Nat := (o.after.toList.filter (Region.binds .any)).map (·.on)

/-- For each operation, a bit for each of its ancestors. -/
def maskOf (acc : List Nat) : List Nat → Nat
  | [] => 0
  | e :: r => (1 <<< e) ||| acc.getD e 0 ||| maskOf acc r
def masks : List Nat → List Oper → List Nat
  | acc, [] => acc
  | acc, o :: r => masks (acc ++ [maskOf acc (edgesOf o)]) r
/-- i is an ancestor of j. -/
def anc (m : List Nat) (i j : Nat) : Bool := (m.getD j 0).testBit i

def okPair (ops : Array Oper) (m : List Nat) (x y : Nat × Kd) : Bool :=
  match ops[x.1]?, ops[y.1]? with
  | some a, some b => anc m x.1 y.1 || (kindsOk x.2 y.2 && a.apart ops b && plainOp a && plainOp b)
  | _, _ => false

def okAll (ops : Array Oper) (m : List Nat) : List (Nat × Kd) → Bool
  | [] => true
  | x :: rest => rest.all (okPair ops m x) && okAll ops m rest

/-- Each is behind those that it waits for. -/
def topo (ops : Array Oper) : List Nat → List (Nat × Kd) → Bool
  | _, [] => true
  | seen, x :: rest => (match ops[x.1]? with | some o => (edgesOf o).all fun e => seen.any (Nat.beq e) | none => false) && !(seen.any (Nat.beq x.1)) && topo ops (x.1 :: seen) rest

def allIn (c : List (Nat × Kd)) : Nat → Bool
  | 0 => true
  | n + 1 => c.any (fun x => Nat.beq x.1 n) && allIn c n
def okRegion (ops : Array Oper) (c : List (Nat × Kd)) : Bool := Nat.beq c.length ops.size && topo ops [] c && okAll ops (masks [] ops.toList) c && allIn c ops.size

def opsAt (ops : Array Oper) (c : List (Nat × Kd)) : List (Oper × Kd) := c.map fun x => (ops[x.1]?.getD default, x.2)

theorem mask_bit {acc : List Nat} {i : Nat} : ∀ {l : List Nat}, (maskOf acc l).testBit i = true → ∃ e, e ∈ l ∧ (i = e ∨ (acc.getD e 0).testBit i = true) := by
  intro l
  induction l with
  | nil => intro h; simp [maskOf] at h
  | cons e l ih =>
    intro h
    simp only [maskOf, Nat.testBit_or, Bool.or_eq_true] at h
    rcases h with (h | h) | h
    · refine ⟨e, by simp, .inl ?_⟩
      rw [Nat.one_shiftLeft, Nat.testBit_two_pow] at h
      simpa using (of_decide_eq_true h).symm
    · exact ⟨e, by simp, .inr h⟩
    · obtain ⟨x, hx, h⟩ := ih h
      exact ⟨x, by simp [hx], h⟩

theorem anc_none {ops : Array Oper} {listed : Array Bool} (hcl : ∀ i o, listed.getD i false = true → ops[i]? = some o → ∀ k, k ∈ edgesOf o → listed.getD k false = true) {i : Nat} (hi : listed.getD i false = false)
    (j : Nat) (o : Oper) (ho : ops[j]? = some o) (he : ∀ k, k ∈ edgesOf o → listed.getD k false = true) : anc (masks [] ops.toList) i j = false := by
  have key : ∀ (l : List Oper) (acc : List Nat) (pre : List Oper), ops.toList = pre ++ l → acc.length = pre.length →
      (∀ k, (acc.getD k 0).testBit i = true → (∃ o, ops[k]? = some o ∧ ∀ e, e ∈ edgesOf o → listed.getD e false = true) → False) →
      ∀ k, ((masks acc l).getD k 0).testBit i = true → (∃ o, ops[k]? = some o ∧ ∀ e, e ∈ edgesOf o → listed.getD e false = true) → False := by
    intro l
    induction l with
    | nil => intro acc pre _ _ h; exact h
    | cons x l ih =>
      intro acc pre hp hlen h
      refine ih (acc ++ [maskOf acc (edgesOf x)]) (pre ++ [x]) (by simp [hp]) (by simp [hlen]) ?_
      intro k hk hex
      by_cases hlt : k < acc.length
      · refine h k ?_ hex
        simpa [List.getD_eq_getElem?_getD, List.getElem?_append_left hlt] using hk
      · by_cases heq : k = acc.length
        · subst heq
          have hk' : (maskOf acc (edgesOf x)).testBit i = true := by simpa [List.getD_eq_getElem?_getD] using hk
          obtain ⟨o', ho', hall⟩ := hex
          have hx : ops[acc.length]? = some x := by
            rw [← Array.getElem?_toList, hp, hlen, List.getElem?_append_right (Nat.le_refl _)]; simp
          rw [hx] at ho'; cases ho'
          obtain ⟨e, hmem, hor⟩ := mask_bit hk'
          have hel := hall e hmem
          rcases hor with rfl | hb
          · rw [hi] at hel; cases hel
          · cases hoe : ops[e]? with
            | none =>
              have : acc.length ≤ e := by
                have hsz : ops.size ≤ e := by simpa using hoe
                have : acc.length ≤ ops.size := by
                  have := congrArg List.length hp
                  simp at this; omega
                omega
              rw [List.getD_eq_getElem?_getD, List.getElem?_eq_none this] at hb
              simp at hb
            | some oe => exact h e hb ⟨oe, hoe, fun e' he' => hcl e oe hel hoe e' he'⟩
        · have : (acc ++ [maskOf acc (edgesOf x)]).length ≤ k := by simp; omega
          rw [List.getD_eq_getElem?_getD, List.getElem?_eq_none this] at hk
          simp at hk
  unfold anc
  cases hb : ((masks [] ops.toList).getD j 0).testBit i with
  | false => rfl
  | true => exact (key ops.toList [] [] rfl rfl (fun k hk => by simp at hk) j hb ⟨o, ho, he⟩).elim

theorem WC_pull {r : Option Nat} {P : Program} {ops : Array Oper} {Q : Exit → Act → World → Prop} {j : Nat} {kj : Kd} {oj : Oper} (hj : ops[j]? = some oj) (c2 : List (Nat × Kd)) :
    ∀ (c1 : List (Nat × Kd)) (a : Act) (w : World), (∀ x, x ∈ c1 → okPair ops (masks [] ops.toList) x (j, kj) = true ∧ anc (masks [] ops.toList) x.1 j = false) → WC r P ops Q (opsAt ops (c1 ++ (j, kj) :: c2)) a w →
      stepK r P ops Q oj kj (WC r P ops Q (opsAt ops (c1 ++ c2))) a w := by
  intro c1
  induction c1 with
  | nil =>
    intro a w _ h
    simpa [opsAt, WC, hj] using h
  | cons x c1 ih =>
    intro a w hc h
    obtain ⟨hp, ha⟩ := hc x (List.mem_cons_self ..)
    unfold okPair at hp
    cases hx : ops[x.1]? with
    | none => simp [hx] at hp
    | some ox =>
      simp only [hx, hj, ha, Bool.false_or, Bool.and_eq_true] at hp
      obtain ⟨⟨⟨k1, k2⟩, k3⟩, k4⟩ := hp
      have h' : stepK r P ops Q ox x.2 (WC r P ops Q (opsAt ops (c1 ++ (j, kj) :: c2))) a w := by
        simpa [opsAt, WC, hx] using h
      have h2 := stepK_mono (fun a w hh => ih a w (fun y hy => hc y (List.mem_cons_of_mem _ hy)) hh) h'
      have h3 := stepK_swap k2 k1 k3 k4 h2
      refine stepK_mono (fun a w hh => ?_) h3
      simpa [opsAt, WC, hx] using hh

theorem WC_any {r : Option Nat} {P : Program} {ops : Array Oper} {Q : Exit → Act → World → Prop} :
    ∀ (fuel : Nat) (c : List (Nat × Kd)) (listed : Array Bool) (a : Act) (w : World), listed.size = ops.size → c.length ≤ fuel → (c.map (·.1)).Nodup →
      (∀ i, i < ops.size → (listed.getD i false = false ↔ i ∈ c.map (·.1))) → (∀ x, x ∈ c → x.1 < ops.size) →
      (∀ i o, listed.getD i false = true → ops[i]? = some o → ∀ k, k ∈ edgesOf o → listed.getD k false = true) →
      okAll ops (masks [] ops.toList) c = true → (∀ x rest, c = x :: rest → ∀ o, ops[x.1]? = some o → ∀ k, k ∈ edgesOf o → listed.getD k false = true) →
      (∀ c1 x c2, c = c1 ++ x :: c2 → ∀ o, ops[x.1]? = some o → ∀ k, k ∈ edgesOf o → listed.getD k false = true ∨ k ∈ c1.map (·.1)) →
      WC r P ops Q (opsAt ops c) a w → wpAnyIn (Fw r) 0 P .any ops Q fuel listed a w := by
  intro fuel
  have readyNil : ∀ (listed : Array Bool), listed.size = ops.size → (∀ i, i < ops.size → (listed.getD i false = false ↔ i ∈ ([] : List (Nat × Kd)).map (·.1))) → Region.ready .any ops listed = [] := by
    intro listed hsz hmem
    rw [List.eq_nil_iff_forall_not_mem]
    intro i hi
    obtain ⟨h1, o, ho, _⟩ := mem_ready.1 hi
    have hlt : i < ops.size := (Array.getElem?_eq_some_iff.1 ho).1
    have h2 := (hmem i hlt)
    have h3 : listed.getD i false = listed.getD i true := by simp [Array.getD, hsz, hlt]
    rw [h3, h1] at h2
    simp at h2
  induction fuel with
  | zero =>
    intro c listed a w hsz hlen hnd hmem hlt hcl hok hfst hto h
    obtain rfl : c = [] := List.eq_nil_of_length_eq_zero (by omega)
    exact ⟨readyNil listed hsz hmem, by simpa [opsAt, WC] using h⟩
  | succ fuel ih =>
    intro c listed a w hsz hlen hnd hmem hlt hcl hok hfst hto h
    refine ⟨fun hr => ?_, fun j hj => ?_⟩
    · cases c with
      | nil => simpa [opsAt, WC] using h
      | cons x rest =>
        exfalso
        have hx : x.1 < ops.size := hlt x (List.mem_cons_self ..)
        have ho : ops[x.1]? = some ops[x.1] := Array.getElem?_eq_getElem hx
        have : x.1 ∈ Region.ready .any ops listed := by
          refine mem_ready.2 ⟨?_, ops[x.1], ho, ?_⟩
          · have := (hmem x.1 hx).2 (by simp)
            simpa [Array.getD, hsz, hx] using this
          · intro e he hb
            exact hfst x rest rfl _ ho e.on (List.mem_map.2 ⟨e, List.mem_filter.2 ⟨by simpa using he, hb⟩, rfl⟩)
        rw [hr] at this; cases this
    · obtain ⟨hj1, oj, hoj, hjall⟩ := mem_ready.1 hj
      have hjlt : j < ops.size := (Array.getElem?_eq_some_iff.1 hoj).1
      have hj1' : listed.getD j false = false := by simpa [Array.getD, hsz, hjlt] using hj1
      have hjed : ∀ k, k ∈ edgesOf oj → listed.getD k false = true := by
        intro k hk
        obtain ⟨e, he, rfl⟩ := List.mem_map.1 hk
        obtain ⟨he1, he2⟩ := List.mem_filter.1 he
        exact hjall e (by simpa using he1) he2
      obtain ⟨xj, hxj, hxj1⟩ := List.mem_map.1 ((hmem j hjlt).1 hj1')
      obtain ⟨c1, c2, hc⟩ := List.append_of_mem hxj
      obtain ⟨j', kj⟩ := xj
      dsimp only at hxj1; subst hxj1
      have okp : ∀ (c1 : List (Nat × Kd)) {c2 : List (Nat × Kd)} {x : Nat × Kd}, okAll ops (masks [] ops.toList) (c1 ++ x :: c2) = true → (∀ y, y ∈ c1 → okPair ops (masks [] ops.toList) y x = true) ∧ okAll ops (masks [] ops.toList) (c1 ++ c2) = true := by
        intro c1
        induction c1 with
        | nil => intro c2 x hh; simp [okAll] at hh; exact ⟨fun y hy => (by cases hy), hh.2⟩
        | cons z c1 ih2 =>
          intro c2 x hh
          simp only [List.cons_append, okAll, Bool.and_eq_true, List.all_eq_true] at hh
          obtain ⟨i1, i2⟩ := ih2 hh.2
          refine ⟨fun y hy => ?_, ?_⟩
          · rcases List.mem_cons.1 hy with rfl | hy
            · exact hh.1 x (by simp)
            · exact i1 y hy
          · simp only [List.cons_append, okAll, Bool.and_eq_true, List.all_eq_true]
            exact ⟨fun y hy => hh.1 y (by simp at hy ⊢; rcases hy with hy | hy <;> simp [hy]), i2⟩
      subst hc
      obtain ⟨ok1, ok2⟩ := okp c1 hok
      have hnd' := hnd
      rw [List.map_append, List.map_cons] at hnd'
      have hndj : j' ∉ c1.map (·.1) ∧ j' ∉ c2.map (·.1) := by
        have hn := List.nodup_append.1 hnd'
        have hn2 := List.nodup_cons.1 hn.2.1
        exact ⟨fun hh => hn.2.2 _ hh _ (List.mem_cons_self ..) rfl, hn2.1⟩
      have pulled := WC_pull (r := r) (P := P) (Q := Q) hoj c2 c1 a w (fun x hx => ⟨ok1 x hx, by
        have hxlt := hlt x (by simp [hx])
        have hxu : listed.getD x.1 false = false := (hmem x.1 hxlt).2 (List.mem_map.2 ⟨x, by simp [hx], rfl⟩)
        exact anc_none hcl hxu j' oj hoj hjed⟩) h
      refine wpOpIn_mono ?_ (stepK_wpOp hoj pulled)
      have setv : ∀ i, (listed.setIfInBounds j' true).getD i false = if i = j' then true else listed.getD i false := by
        intro i
        by_cases e : i = j'
        · subst e; simp [Array.getD, hsz, hjlt]
        · rw [if_neg e]; exact getD_set_ne false (Ne.symm e)
      intro a' w' hw'
      refine ih (c1 ++ c2) _ a' w' (by simpa using hsz) (by simp at hlen ⊢; omega) ?_ ?_ ?_ ?_ ok2 ?_ ?_ hw'
      · exact hnd.sublist (List.Sublist.map _ (List.Sublist.append_left (List.sublist_cons_self ..) _))
      · intro i hi
        rw [setv]
        by_cases e : i = j'
        · subst e
          rw [if_pos rfl, List.map_append, List.mem_append]
          exact ⟨fun hh => (by cases hh), fun hh => (hh.elim hndj.1 hndj.2).elim⟩
        · rw [if_neg e, hmem i hi]
          simp [e]
      · intro x hx
        exact hlt x (by simp at hx ⊢; rcases hx with hx | hx <;> simp [hx])
      · intro i o hi ho k hk
        rw [setv] at hi ⊢
        by_cases e : k = j'
        · simp [e]
        · rw [if_neg e]
          by_cases e2 : i = j'
          · subst e2; rw [hoj] at ho; cases ho; exact hjed k hk
          · rw [if_neg e2] at hi; exact hcl i o hi ho k hk
      · intro x rest hx o ho k hk
        rw [setv]
        by_cases e : k = j'
        · simp [e]
        · rw [if_neg e]
          cases c1 with
          | nil =>
            have hx' : c2 = x :: rest := by simpa using hx
            have := hto [(j', kj)] x rest (by rw [hx']; rfl) o ho k hk
            rcases this with q | q
            · exact q
            · exact absurd (by simpa using q) e
          | cons y c1 =>
            simp only [List.cons_append, List.cons.injEq] at hx
            exact hfst y _ rfl o (hx.1 ▸ ho) k hk
      · intro d1 x d2 hx o ho k hk
        rw [setv]
        by_cases e : k = j'
        · simp [e]
        · rw [if_neg e]
          rcases List.append_eq_append_iff.1 hx with ⟨as, h1, h2⟩ | ⟨as, h1, h2⟩
          · -- d1 = c1 ++ as, c2 = as ++ x :: d2
            have := hto (c1 ++ (j', kj) :: as) x d2 (by simp [h2]) o ho k hk
            rcases this with q | q
            · exact .inl q
            · right
              simp only [List.map_append, List.map_cons, List.mem_append, List.mem_cons, e, false_or] at q
              simpa [h1] using q
          · -- c1 = d1 ++ as, x :: d2 = as ++ c2
            cases as with
            | nil =>
              have := hto (c1 ++ [(j', kj)]) x d2 (by simp at h2 ⊢; exact h2.symm) o ho k hk
              rcases this with q | q
              · exact .inl q
              · right
                simp only [List.map_append, List.map_cons, List.map_nil, List.mem_append, List.mem_cons, e, List.not_mem_nil, or_false] at q
                simpa [h1] using q
            | cons z as =>
              simp only [List.cons_append, List.cons.injEq] at h2
              exact hto d1 x (as ++ (j', kj) :: c2) (by simp [h1, h2.1]) o ho k hk

theorem topo_spec {ops : Array Oper} : ∀ (c : List (Nat × Kd)) (seen : List Nat), topo ops seen c = true →
    (∀ c1 x c2, c = c1 ++ x :: c2 → ∃ o, ops[x.1]? = some o ∧ ∀ k, k ∈ edgesOf o → k ∈ seen ∨ k ∈ c1.map (·.1)) ∧ (c.map (·.1)).Nodup ∧ (∀ x, x ∈ c → x.1 ∉ seen) := by
  have anyb : ∀ (l : List Nat) (e : Nat), l.any (Nat.beq e) = true ↔ e ∈ l := by
    intro l e
    rw [List.any_eq_true]
    exact ⟨fun ⟨x, hx, hb⟩ => Nat.eq_of_beq_eq_true hb ▸ hx, fun h => ⟨e, h, Nat.beq_refl e⟩⟩
  intro c
  induction c with
  | nil => intro seen _; exact ⟨fun c1 x c2 h => by simp at h, List.nodup_nil, fun x hx => by cases hx⟩
  | cons y c ih =>
    intro seen h
    simp only [topo, Bool.and_eq_true, Bool.not_eq_true'] at h
    obtain ⟨⟨h1, h2⟩, h3⟩ := h
    obtain ⟨i1, i2, i3⟩ := ih _ h3
    have hy : y.1 ∉ seen := fun hh => by rw [(anyb _ _).2 hh] at h2; cases h2
    refine ⟨?_, ?_, ?_⟩
    · intro c1 x c2 hc
      cases c1 with
      | nil =>
        simp only [List.nil_append, List.cons.injEq] at hc
        obtain ⟨rfl, rfl⟩ := hc
        cases ho : ops[y.1]? with
        | none => simp [ho] at h1
        | some o =>
          simp only [ho, List.all_eq_true] at h1
          exact ⟨o, rfl, fun k hk => .inl ((anyb _ _).1 (h1 k hk))⟩
      | cons z c1 =>
        simp only [List.cons_append, List.cons.injEq] at hc
        obtain ⟨rfl, rfl⟩ := hc
        obtain ⟨o, ho, hh⟩ := i1 c1 x c2 rfl
        refine ⟨o, ho, fun k hk => ?_⟩
        rcases hh k hk with q | q
        · rcases List.mem_cons.1 q with rfl | q
          · right; simp
          · exact .inl q
        · right; simp at q ⊢; exact .inr q
    · rw [List.map_cons, List.nodup_cons]
      refine ⟨fun hh => ?_, i2⟩
      obtain ⟨x, hx, e⟩ := List.mem_map.1 hh
      exact i3 x hx (by rw [e]; simp)
    · intro x hx
      rcases List.mem_cons.1 hx with rfl | hx
      · exact hy
      · exact fun hh => i3 x hx (List.mem_cons_of_mem _ hh)

/-- **A region that draws its order, walked once.** -/
theorem wp_draw {r : Option Nat} {P : Program} {id : Nat} {ops : Array Oper} {Q : Exit → Act → World → Prop} {a : Act} {w : World} (c : List (Nat × Kd))
    (hm : P.follows .mixedOrders = true) (hok : okRegion ops c = true) (h : WC r P ops Q (opsAt ops c) a { w with drawn := w.drawn + 1 }) :
    (Code.region id ops true).wpIn (Fw r) 0 P Q a w := by
  simp only [okRegion, Bool.and_eq_true] at hok
  obtain ⟨⟨⟨h1, h2⟩, h3⟩, h4⟩ := hok
  have hlen := Nat.eq_of_beq_eq_true h1
  obtain ⟨t1, t2, t3⟩ := topo_spec c [] h2
  have hall : ∀ n i, i < n → allIn c n = true → i ∈ c.map (·.1) := by
    intro n
    induction n with
    | zero => intro i hi; omega
    | succ n ih =>
      intro i hi hh
      simp only [allIn, Bool.and_eq_true, List.any_eq_true] at hh
      by_cases e : i = n
      · obtain ⟨x, hx, hb⟩ := hh.1
        exact List.mem_map.2 ⟨x, hx, by rw [Nat.eq_of_beq_eq_true hb, e]⟩
      · exact ih i (by omega) hh.2
  have hlt : ∀ x, x ∈ c → x.1 < ops.size := fun x hx => by
    obtain ⟨c1, c2, e⟩ := List.append_of_mem hx
    obtain ⟨o, ho, _⟩ := t1 c1 x c2 e
    exact (Array.getElem?_eq_some_iff.1 ho).1
  have rep : ∀ i, i < ops.size → (Array.replicate ops.size false).getD i false = false := fun i hi => by simp [Array.getD, hi]
  have rep' : ∀ i, (Array.replicate ops.size false).getD i false = false := fun i => by
    by_cases hi : i < ops.size
    · exact rep i hi
    · simp [Array.getD, hi]
  refine wpIn_region_any hm (WC_any ops.size c _ a _ (by simp) (by omega) t2 ?_ hlt ?_ h3 ?_ ?_ h)
  · intro i hi
    exact ⟨fun _ => hall ops.size i hi h4, fun _ => rep i hi⟩
  · intro i o hi; rw [rep'] at hi; cases hi
  · intro x rest e o ho k hk
    obtain ⟨o', ho', hh⟩ := t1 [] x rest (by simpa using e)
    rw [ho] at ho'; cases ho'
    rcases hh k hk with q | q <;> cases q
  · intro c1 x c2 e o ho k hk
    obtain ⟨o', ho', hh⟩ := t1 c1 x c2 e
    rw [ho] at ho'; cases ho'
    rcases hh k hk with q | q
    · cases q
    · exact .inr q

/-- A region in the text's order. -/
theorem wp_text {r : Option Nat} {P : Program} {id : Nat} {ops : Array Oper} {Q : Exit → Act → World → Prop} {a : Act} {w : World}
    (h : WC r P ops Q (ops.toList.map fun o => (o, .seq)) a w) : (Code.region id ops false).wpIn (Fw r) 0 P Q a w := by
  refine wpIn_region ?_
  have key : ∀ (l : List Nat) (a : Act) (w : World), (∀ i, i ∈ l → i < ops.size) → WC r P ops Q (l.map fun i => (ops[i]?.getD default, .seq)) a w → wpOpsIn (Fw r) 0 P ops Q l a w := by
    intro l
    induction l with
    | nil => intro a w _ hh; exact hh
    | cons i l ih =>
      intro a w hl hh
      have hi : i < ops.size := hl i (List.mem_cons_self ..)
      have ho : ops[i]? = some ops[i] := Array.getElem?_eq_getElem hi
      rw [wpOpsIn_cons]
      simp only [List.map_cons, WC, ho, Option.getD_some] at hh
      exact wpOpIn_mono (fun a w hk => ih a w (fun x hx => hl x (List.mem_cons_of_mem _ hx)) hk) (stepK_wpOp ho hh)
  refine key _ a w (fun i hi => List.mem_range.1 hi) ?_
  have e : (List.range ops.size).map (fun i => (ops[i]?.getD default, Kd.seq)) = ops.toList.map fun o => (o, Kd.seq) := by
    apply List.ext_getElem
    · simp
    · intro i h1 h2
      simp at h1 h2
      simp [h1]
  rw [e]
  exact h
end Go.Sod
