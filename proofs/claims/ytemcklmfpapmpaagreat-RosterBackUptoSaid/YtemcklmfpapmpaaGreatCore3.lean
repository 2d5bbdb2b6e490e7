/-
  The walk's judgement: what is known of temporaries, what lies in memory; the rules for code. Conditions: none.
-/
import Derived.Test.YtemcklmfpapmpaaGreatCore2
namespace Go.Sod
set_option linter.unusedVariables false
set_option linter.unusedSimpArgs false

/-- What is known of the temporaries. -/
abbrev Env := List (Nat × Value)
def gt : Env → Nat → Option Value
  | [], _ => none
  | (k, v) :: r, t => bif Nat.beq k t then some v else gt r t
def Knows (env : Env) (a : Act) : Prop := ∀ t v, gt env t = some v → a.tmps.getD t undef = v
def evE (env : Env) : Operand → Option Value
  | .tmp t => gt env t
  | .const v => some v
  | .global g => some (.pointer (some ⟨g, 0, none⟩))
  | .func f => some (.func (.func f) #[] #[])
def evL (env : Env) : List Operand → Option (List Value)
  | [] => some []
  | x :: r => match evE env x with
    | some v => (match evL env r with | some vs => some (v :: vs) | none => none)
    | none => none

theorem Knows.eval {env : Env} {a : Act} (k : Knows env a) {x : Operand} {v : Value} (h : evE env x = some v) : a.eval x = v := by
  cases x with
  | tmp t => exact k t v h
  | const c => simpa [evE, Act.eval] using h
  | global g => simpa [evE, Act.eval] using h
  | func f => simpa [evE, Act.eval] using h
theorem Knows.evalL {env : Env} {a : Act} (k : Knows env a) : ∀ {xs : List Operand} {vs : List Value}, evL env xs = some vs → xs.map a.eval = vs := by
  intro xs
  induction xs with
  | nil => intro vs h; simpa [evL] using h
  | cons x xs ih =>
    intro vs h
    unfold evL at h
    cases hx : evE env x with
    | none => simp [hx] at h
    | some v =>
      cases hr : evL env xs with
      | none => simp [hx, hr] at h
      | some us =>
        simp only [hx, hr, Option.some.injEq] at h
        subst h
        rw [List.map_cons, k.eval hx, ih hr]

/-- What stays as it is through one function. -/
structure Cx where
  P : Program
  r : Option Nat
  nt : Nat
  w0 : World
  M0 : Nat → Prop
  h0 : Hp

def Sat (C : Cx) (ds : List Deferred) (env : Env) (h : Hp) (L : List Hp) (a : Act) (w : World) : Prop :=
  a.tmps.size = C.nt ∧ a.defers = ds ∧ Knows env a ∧ St C.w0 C.M0 C.h0 w h L

/-- Wherever this is known, K holds. -/
def J (C : Cx) (K : Act → World → Prop) (ds : List Deferred) (env : Env) (h : Hp) (L : List Hp) : Prop :=
  ∀ a w, Sat C ds env h L a w → K a w

theorem Knows.put {env : Env} {a : Act} (k : Knows env a) {d : Nat} (v : Value) (hd : d < a.tmps.size) : Knows ((d, v) :: env) (a.put (some d) v) := by
  intro t u hu
  unfold gt at hu
  cases hb : Nat.beq d t with
  | true =>
    have := Nat.eq_of_beq_eq_true hb
    subst this
    simp only [hb, cond_true, Option.some.injEq] at hu
    subst hu
    simp [Act.put, hd]
  | false =>
    simp only [hb, cond_false] at hu
    have hne : d ≠ t := fun e => by subst e; simp [Nat.beq_refl] at hb
    have := k t u hu
    simpa [Act.put, Array.getElem?_setIfInBounds_ne hne] using this

def Sub (e' e : Env) : Prop := ∀ t v, gt e' t = some v → gt e t = some v
theorem Sub.refl (e : Env) : Sub e e := fun _ _ h => h
theorem Sub.nil (e : Env) : Sub [] e := fun _ _ h => by simp [gt] at h
theorem Sub.cons {e e' : Env} {t : Nat} {v : Value} (h : gt e t = some v) (s : Sub e' e) : Sub ((t, v) :: e') e := by
  intro u x hx
  unfold gt at hx
  cases hb : Nat.beq t u with
  | true =>
    have := Nat.eq_of_beq_eq_true hb
    subst this
    simp only [hb, cond_true, Option.some.injEq] at hx
    subst hx; exact h
  | false => simp only [hb, cond_false] at hx; exact s u x hx
theorem Sub.keep {e e' : Env} {t : Nat} {v : Value} (s : Sub e' e) : Sub ((t, v) :: e') ((t, v) :: e) := by
  intro u x hx
  unfold gt at hx ⊢
  cases hb : Nat.beq t u with
  | true => simpa [hb] using hx
  | false => simp only [hb, cond_false] at hx ⊢; exact s u x hx
theorem Knows.sub {e e' : Env} {a : Act} (k : Knows e a) (s : Sub e' e) : Knows e' a := fun t v h => k t v (s t v h)

section
variable {C : Cx} {K : Act → World → Prop} {ds : List Deferred} {env : Env} {h : Hp} {L : List Hp}

theorem J.mono {K' : Act → World → Prop} (j : J C K ds env h L) (hk : ∀ a w, K a w → K' a w) : J C K' ds env h L := fun a w s => hk a w (j a w s)
theorem J.en {e' : Env} (s : Sub e' env) (j : J C K ds e' h L) : J C K ds env h L := fun a w q => j a w ⟨q.1, q.2.1, q.2.2.1.sub s, q.2.2.2⟩
theorem J.st {h' : Hp} {L' : List Hp} (s : ∀ w, St C.w0 C.M0 C.h0 w h L → St C.w0 C.M0 C.h0 w h' L') (j : J C K ds env h' L') : J C K ds env h L :=
  fun a w q => j a w ⟨q.1, q.2.1, q.2.2.1, s w q.2.2.2⟩
theorem J.perm {L' : List Hp} (p : L.Perm L') (j : J C K ds env h L') : J C K ds env h L := J.st (fun _ s => s.perm p) j
theorem J.drop {L' : List Hp} (p : L'.Sublist L) (j : J C K ds env h L') : J C K ds env h L := J.st (fun _ s => s.sub p) j
theorem J.fact {p : Prop} (hp : ∀ w, St C.w0 C.M0 C.h0 w h L → p) (j : p → J C K ds env h L) : J C K ds env h L := fun a w q => j (hp w q.2.2.2) a w q

/-- the i-th part to the front -/
def frontL : Nat → List Hp → Option (Hp × List Hp)
  | _, [] => none
  | 0, k :: r => some (k, r)
  | n + 1, k :: r => match frontL n r with | some (x, r') => some (x, k :: r') | none => none
theorem frontL_perm : ∀ {n : Nat} {L : List Hp} {k : Hp} {r : List Hp}, frontL n L = some (k, r) → L.Perm (k :: r) := by
  intro n
  induction n with
  | zero => intro L k r h; cases L <;> simp [frontL] at h; obtain ⟨rfl, rfl⟩ := h; exact List.Perm.refl _
  | succ n ih =>
    intro L k r h
    cases L with
    | nil => simp [frontL] at h
    | cons a L =>
      simp only [frontL] at h
      cases hf : frontL n L with
      | none => simp [hf] at h
      | some x =>
        obtain ⟨x, r'⟩ := x
        simp only [hf, Option.some.injEq, Prod.mk.injEq] at h
        obtain ⟨rfl, rfl⟩ := h
        exact ((ih hf).cons a).trans (List.Perm.swap x a r')
theorem J.front {k : Hp} {r : List Hp} (n : Nat) (e : frontL n L = some (k, r)) (j : J C K ds env h (k :: r)) : J C K ds env h L := J.perm (frontL_perm e) j
theorem J.dropN (n : Nat) (j : J C K ds env h (L.take n)) : J C K ds env h L := J.drop (List.take_sublist n L) j
theorem J.freeze {k : Hp} {r : List Hp} (j : J C K ds env (h.un k) r) : J C K ds env h (k :: r) :=
  J.st (fun w s => s.freeze) j

/-! ### Code -/
abbrev wpc (C : Cx) (c : Code) (Q : Exit → Act → World → Prop) : Act → World → Prop := fun a w => c.wpIn (Fw C.r) 0 C.P Q a w
variable {Q : Exit → Act → World → Prop} {x y c : Code}
theorem J.seq (j : J C (wpc C x (Exit.then (wpc C y Q) Q)) ds env h L) : J C (wpc C (.seq x y) Q) ds env h L := j.mono fun _ _ q => wpIn_seq q
theorem J.block {id : Nat} (j : J C (wpc C c (Exit.inBlock id Q)) ds env h L) : J C (wpc C (.block id c) Q) ds env h L := j.mono fun _ _ q => wpIn_block q
theorem J.skip (j : J C (Q .normal) ds env h L) : J C (wpc C .skip Q) ds env h L := j.mono fun _ _ q => wpIn_skip q
theorem J.exit {id : Nat} (j : J C (Q (.exit id)) ds env h L) : J C (wpc C (.exit id) Q) ds env h L := j.mono fun _ _ q => wpIn_exit q
theorem J.ret (j : J C (Q .ret) ds env h L) : J C (wpc C .ret Q) ds env h L := j.mono fun _ _ q => wpIn_ret q
theorem J.text {id : Nat} {ops : Array Oper} (j : J C (WC C.r C.P ops Q (ops.toList.map fun o => (o, .seq))) ds env h L) : J C (wpc C (.region id ops false) Q) ds env h L :=
  j.mono fun _ _ q => wp_text q
theorem J.draw {id : Nat} {ops : Array Oper} (c : List (Nat × Kd)) (hm : C.P.follows .mixedOrders = true) (hok : okRegion ops c = true)
    (j : J C (WC C.r C.P ops Q (opsAt ops c)) ds env h L) : J C (wpc C (.region id ops true) Q) ds env h L :=
  fun a w q => wp_draw c hm hok (j a _ ⟨q.1, q.2.1, q.2.2.1, q.2.2.2.drew⟩)
theorem J.done {r : Option Nat} {P : Program} {ops : Array Oper} (j : J C (Q .normal) ds env h L) : J C (WC r P ops Q []) ds env h L := j
theorem J.thenN (j : J C K ds env h L) : J C ((Exit.then K Q) .normal) ds env h L := j
theorem J.thenE {i : Nat} (j : J C (Q (.exit i)) ds env h L) : J C ((Exit.then K Q) (.exit i)) ds env h L := j
theorem J.thenR (j : J C (Q .ret) ds env h L) : J C ((Exit.then K Q) .ret) ds env h L := j
theorem J.blkN {id : Nat} (j : J C (Q .normal) ds env h L) : J C ((Exit.inBlock id Q) .normal) ds env h L := j
theorem J.blkR {id : Nat} (j : J C (Q .ret) ds env h L) : J C ((Exit.inBlock id Q) .ret) ds env h L := j
theorem J.blkHit {id : Nat} (j : J C (Q .normal) ds env h L) : J C ((Exit.inBlock id Q) (.exit id)) ds env h L := j.mono fun a w q => by
  show (if id = id then Q .normal a w else Q (.exit id) a w)
  rw [if_pos rfl]; exact q
theorem J.blkMiss {id i : Nat} (hn : Nat.beq i id = false) (j : J C (Q (.exit i)) ds env h L) : J C ((Exit.inBlock id Q) (.exit i)) ds env h L := j.mono fun a w q => by
  show (if i = id then Q .normal a w else Q (.exit i) a w)
  rw [if_neg (fun e => by subst e; simp [Nat.beq_refl] at hn)]; exact q
theorem J.cond {o : Operand} {b : Bool} (e : evE env o = some (.bool b)) (j1 : b = true → J C (wpc C x Q) ds env h L) (j2 : b = false → J C (wpc C y Q) ds env h L) :
    J C (wpc C (.cond o x y) Q) ds env h L := fun a w q => by
  refine wpIn_cond (q.2.2.1.eval e) ?_
  cases b with
  | true => exact j1 rfl a w q
  | false => exact j2 rfl a w q
theorem J.condT {o : Operand} (e : evE env o = some (.bool true)) (j : J C (wpc C x Q) ds env h L) : J C (wpc C (.cond o x y) Q) ds env h L := J.cond e (fun _ => j) (fun e => by cases e)
theorem J.condF {o : Operand} (e : evE env o = some (.bool false)) (j : J C (wpc C y Q) ds env h L) : J C (wpc C (.cond o x y) Q) ds env h L := J.cond e (fun e => by cases e) (fun _ => j)

/-- A bool in a slot is parted. -/
theorem J.split {t : Nat} {b : Bool} (e : gt env t = some (.bool b)) (j1 : b = true → J C K ds ((t, .bool true) :: env) h L) (j2 : b = false → J C K ds ((t, .bool false) :: env) h L) : J C K ds env h L := by
  cases b with
  | true => exact J.en (Sub.cons e (Sub.refl _)) (j1 rfl)
  | false => exact J.en (Sub.cons e (Sub.refl _)) (j2 rfl)
/-- A slot's value is another spelling. -/
theorem J.as {t : Nat} {v u : Value} (e : gt env t = some v) (he : v = u) (j : J C K ds ((t, u) :: env) h L) : J C K ds env h L := J.en (Sub.cons (he ▸ e) (Sub.refl _)) j

/-! ### Loops -/
end
theorem wpIn_loop_ix {F : Fence} {n : Nat} {P : Program} {Q : Exit → Act → World → Prop} {a : Act} {w : World} {c : Code} {ι : Type} (I : ι → Act → World → Prop) (μ : ι → Nat) (i0 : ι) (h₀ : I i0 a w)
    (round : ∀ i a w, I i a w → c.wpIn F n P (Exit.then (fun a' w' => ∃ j, μ j < μ i ∧ I j a' w') Q) a w) : (Code.loop c).wpIn F n P Q a w := by
  intro b k cs hro hb hr
  have key : ∀ j i a w, μ i = j → I i a w →
      ∃ e a' w', Q e a' w' ∧ ArrivesIn (Machine.fenced P F) P (lone (b.atR a (.code c :: .inLoop c :: k)) cs w) b k cs e a' w' := by
    intro j
    induction j using Nat.strongRecOn with
    | _ j ih =>
      intro i a w hn hI
      obtain ⟨e, a₁, w₁, hq, harr⟩ := round i a w hI b (.inLoop c :: k) cs hro hb hr
      cases e with
      | normal =>
        obtain ⟨i₁, hlt, hI₁⟩ := hq
        obtain ⟨e₂, a₂, w₂, hq₂, harr₂⟩ := ih (μ i₁) (hn ▸ hlt) i₁ a₁ w₁ rfl hI₁
        exact ⟨e₂, a₂, w₂, hq₂, .of_steps (StepsIn.trans harr (.one (fenced_calm hb hr rfl) stepR_inLoop)) harr₂⟩
      | exit id => exact ⟨_, a₁, w₁, hq, .pass (x := .inLoop c) rfl (fun _ _ => .inl (by simp)) harr⟩
      | goto l => exact ⟨_, a₁, w₁, hq, .pass (x := .inLoop c) rfl (fun _ _ => .inl (by simp)) harr⟩
      | ret => exact ⟨_, a₁, w₁, hq, .pass (x := .inLoop c) rfl (fun _ _ => .inl (by simp)) harr⟩
      | panic ch => exact ⟨_, a₁, w₁, hq, .pass (x := .inLoop c) rfl (fun _ _ => .inl (by simp)) harr⟩
      | outgrown => exact ⟨_, a₁, w₁, hq, .pass (x := .inLoop c) rfl (fun _ _ => .inl (by simp)) harr⟩
  obtain ⟨e, a', w', hq, harr⟩ := key _ i0 a w rfl h₀
  exact ⟨e, a', w', hq, .of_steps (.one (fenced_calm hb hr rfl) stepR_loop) harr⟩

section
variable {C : Cx} {ds : List Deferred} {env : Env} {h : Hp} {L : List Hp} {Q : Exit → Act → World → Prop} {c : Code}
def Again (C : Cx) {ι : Type} (Φ : ι → Prop) (E : ι → Env) (H : ι → Hp) (LL : ι → List Hp) (μ : ι → Nat) (ds : List Deferred) (i : ι) : Act → World → Prop :=
  fun a w => ∃ j, μ j < μ i ∧ Φ j ∧ Sat C ds (E j) (H j) (LL j) a w
theorem J.loop {ι : Type} (Φ : ι → Prop) (E : ι → Env) (H : ι → Hp) (LL : ι → List Hp) (μ : ι → Nat) (i0 : ι) (hΦ : Φ i0) (hs : Sub (E i0) env) (hh : H i0 = h) (hL : LL i0 = L)
    (body : ∀ i, Φ i → J C (wpc C c (Exit.then (Again C Φ E H LL μ ds i) Q)) ds (E i) (H i) (LL i)) : J C (wpc C (.loop c) Q) ds env h L := by
  intro a w q
  subst hh; subst hL
  exact wpIn_loop_ix (fun i a w => Φ i ∧ Sat C ds (E i) (H i) (LL i) a w) μ i0 ⟨hΦ, q.1, q.2.1, q.2.2.1.sub hs, q.2.2.2⟩ (fun i a w ⟨h1, h2⟩ => body i h1 a w h2)
theorem J.again {ι : Type} {Φ : ι → Prop} {E : ι → Env} {H : ι → Hp} {LL : ι → List Hp} {μ : ι → Nat} {i : ι} (j : ι) (hμ : μ j < μ i) (hΦ : Φ j) (hs : Sub (E j) env) (hh : H j = h) (hL : LL j = L) :
    J C (Again C Φ E H LL μ ds i) ds env h L := by
  subst hh; subst hL
  exact fun a w q => ⟨j, hμ, hΦ, q.1, q.2.1, q.2.2.1.sub hs, q.2.2.2⟩
end

/-- Where ways meet again. -/
def Mid (C : Cx) {ι : Type} (Φ : ι → Prop) (E : ι → Env) (H : ι → Hp) (LL : ι → List Hp) (ds : List Deferred) : Act → World → Prop :=
  fun a w => ∃ j, Φ j ∧ Sat C ds (E j) (H j) (LL j) a w
theorem J.cut {C : Cx} {ds : List Deferred} {env : Env} {h : Hp} {L : List Hp} {Q : Exit → Act → World → Prop} {x y : Code} {ι : Type} (Φ : ι → Prop) (E : ι → Env) (H : ι → Hp) (LL : ι → List Hp)
    (hx : J C (wpc C x (Exit.then (Mid C Φ E H LL ds) Q)) ds env h L) (hy : ∀ i, Φ i → J C (wpc C y Q) ds (E i) (H i) (LL i)) : J C (wpc C (.seq x y) Q) ds env h L :=
  J.seq (fun a w q => wpIn_mono (hx a w q) fun e a' w' hq => by
    cases e with
    | normal => obtain ⟨j, h1, h2⟩ := hq; exact hy j h1 a' w' h2
    | _ => exact hq)
theorem J.mid {C : Cx} {ds : List Deferred} {env : Env} {h : Hp} {L : List Hp} {ι : Type} {Φ : ι → Prop} {E : ι → Env} {H : ι → Hp} {LL : ι → List Hp} (j : ι) (hΦ : Φ j) (hs : Sub (E j) env) (hh : H j = h) (hL : LL j = L) :
    J C (Mid C Φ E H LL ds) ds env h L := by
  subst hh; subst hL
  exact fun a w q => ⟨j, hΦ, q.1, q.2.1, q.2.2.1.sub hs, q.2.2.2⟩

/-! ### Functions -/
/-- **A contract**: called with these values where h is read and ms may be written. -/
def FS (P : Program) (f : FuncId) (vs : List Value) (h : Hp) (ms : List Hp) (R : Value → Hp → List Hp → Prop) : Prop :=
  ∀ w, Ok w h ms → Calls P f ⟨vs⟩ w fun e w' => ∃ v h' ms', e = .returned v ∧ St w (domL ms) h w' h' ms' ∧ R v h' ms'

theorem FS.mono {P : Program} {f : FuncId} {vs : List Value} {h : Hp} {ms : List Hp} {R R' : Value → Hp → List Hp → Prop} (s : FS P f vs h ms R) (hr : ∀ v h' ms', R v h' ms' → R' v h' ms') : FS P f vs h ms R' :=
  fun w o => Calls.mono (s w o) fun e w' ⟨v, h', ms', e1, e2, e3⟩ => ⟨v, h', ms', e1, e2, hr _ _ _ e3⟩

def envOf : Nat → List Value → Env
  | _, [] => []
  | n, v :: r => (n, v) :: envOf (n + 1) r
theorem envOf_gt : ∀ (l : List Value) (n t : Nat) (v : Value), gt (envOf n l) t = some v → n ≤ t ∧ l[t - n]? = some v := by
  intro l
  induction l with
  | nil => intro n t v h; simp [envOf, gt] at h
  | cons x l ih =>
    intro n t v h
    unfold envOf gt at h
    cases hb : Nat.beq n t with
    | true =>
      have := Nat.eq_of_beq_eq_true hb
      subst this
      simp only [hb, cond_true, Option.some.injEq] at h
      subst h
      simp
    | false =>
      simp only [hb, cond_false] at h
      obtain ⟨h1, h2⟩ := ih _ _ _ h
      refine ⟨by omega, ?_⟩
      have : t - n = (t - (n + 1)) + 1 := by omega
      rw [this, List.getElem?_cons_succ]; exact h2

/-- What is asked at a function's end. -/
def endP (P : Program) (fn : Func) (w0 : World) (M0 : Nat → Prop) (h0 : Hp) (R : Value → Hp → List Hp → Prop) : Exit → Act → World → Prop :=
  bodyPostM (Fw none) 0 P fn (fun e w' => ∃ v h' ms', e = .returned v ∧ St w0 M0 h0 w' h' ms' ∧ R v h' ms')

theorem FS.enter {P : Program} {f : FuncId} {fn : Func} {c : Code} {vs : List Value} {h : Hp} {ms : List Hp} {R : Value → Hp → List Hp → Prop} (hf : P.funcs[f]? = some fn) (hb : fn.body = some c) (hn : Nat.ble vs.length fn.ntmps = true)
    (j : ∀ w0, J ⟨P, none, fn.ntmps, w0, domL ms, h⟩ (wpc ⟨P, none, fn.ntmps, w0, domL ms, h⟩ c (endP P fn w0 (domL ms) h R)) [] (envOf 0 vs) h ms) : FS P f vs h ms R := by
  intro w o
  have hn' := Nat.le_of_ble_eq_true hn
  refine (callsIn_wide (n := 0)).1 (callsIn_of_wp_marks (F := Fw none) (n := 0) hf hb trivial ?_)
  refine j w _ w ⟨?_, rfl, ?_, o.st⟩
  · simp; omega
  · intro t v e
    obtain ⟨_, h2⟩ := envOf_gt vs 0 t v e
    have hlt : t < vs.length := by
      rw [List.getElem?_eq_some_iff] at h2; simpa using h2.1
    simp only [Nat.sub_zero] at h2
    simp [Array.getElem?_append, hlt]
    exact (List.getElem?_eq_some_iff.1 h2).2

/-- The results' values, all in slots. -/
def resV (env : Env) : List ResultVar → Option (List Value)
  | [] => some []
  | .tmp t :: r => match gt env t with
    | some v => (match resV env r with | some vs => some (v :: vs) | none => none)
    | none => none
  | .cell .. :: _ => none
def resOne : List Value → Value
  | [v] => v
  | vs => .tuple ⟨vs⟩

theorem resV_run {P : Program} {fn : Func} {env : Env} {a : Act} {w : World} (k : Knows env a) {vs : List Value} (h : resV env fn.results.toList = some vs) : (results fn a.tmps).run P w = .ok (resOne vs) w := by
  have key : ∀ (l : List ResultVar) (vs : List Value), resV env l = some vs →
      ((l.mapM fun (x : ResultVar) => (match x with
        | .tmp t => pure (a.tmps.getD t undef)
        | .cell ad t => do loadVar t (← asAddr (a.tmps.getD ad undef)) : Sem Value)) : Sem (List Value)).run P w = .ok vs w := by
    intro l
    induction l with
    | nil => intro vs h; simp [resV] at h; subst h; simp
    | cons x l ih =>
      intro vs h
      cases x with
      | cell ad t => simp [resV] at h
      | tmp t =>
        simp only [resV] at h
        cases h1 : gt env t with
        | none => simp [h1] at h
        | some v =>
          cases h2 : resV env l with
          | none => simp [h1, h2] at h
          | some us =>
            simp only [h1, h2, Option.some.injEq] at h
            subst h
            have e := k t v h1
            rw [List.mapM_cons, Sem.run_bind]
            simp only [Sem.run_pure, Result.andThen_ok, Sem.run_bind]
            rw [ih _ h2, e]
            rfl
  have := key _ _ h
  unfold results
  rw [Sem.run_bind, Array.mapM_eq_mapM_toList, Sem.run_map]
  erw [this]
  simp only [Result.andThen_ok, Sem.run_pure]
  cases vs with
  | nil => simp [resOne]
  | cons v vs => cases vs with
    | nil => simp [resOne]
    | cons u vs => simp [resOne]

theorem J.retTmp {P : Program} {fn : Func} {w0 : World} {M0 : Nat → Prop} {h0 : Hp} {nt : Nat} {R : Value → Hp → List Hp → Prop} {env : Env} {h : Hp} {L ms' : List Hp} {vs : List Value} (hv : resV env fn.results.toList = some vs)
    (hs : ms'.Sublist L) (hR : R (resOne vs) h ms') : J ⟨P, none, nt, w0, M0, h0⟩ ((endP P fn w0 M0 h0 R) .ret) [] env h L := by
  rintro a w ⟨_, hd, k, s⟩
  show LeavesInM (Fw none) 0 P fn a.tmps _ a.defers .returning w
  rw [hd]
  exact ⟨_, resV_run k hv, _, h, ms', rfl, s.sub hs, hR⟩
end Go.Sod
