/-
  Structs and arrays compared; arrays built; what is read taken back within a group. Conditions: none.
-/
import Derived.Test.YtemcklmfpapmpaaGreatCore19
import Derived.Laws.StructEq
namespace Go.Sod
set_option linter.unusedVariables false
set_option linter.unusedSimpArgs false

def eqK : Nat → Value → Value → Option Bool
  | 0, .int q a, .int q' b => if q = q' then some (decide (a = b)) else none
  | 1, .string a, .string b => some (decide (a = b))
  | 2, .bool a, .bool b => some (a == b)
  | _, _, _ => none
def eqLs : List Nat → List Value → List Value → Option Bool
  | [], [], [] => some true
  | k :: kl, x :: xs, y :: ys => match eqK k x y with
    | some b => (match eqLs kl xs ys with | some c => some (b && c) | none => none)
    | none => none
  | _, _, _ => none
/-- the kind of a scalar type -/
def scalK (P : Program) (t : TypeId) : Option Nat := match P.underlying t with
  | some (.int _) => some 0
  | some .string => some 1
  | some .bool => some 2
  | _ => none
def okFs (P : Program) : Nat → List Field → List Nat → Bool
  | _, [], [] => true
  | i, f :: r, k :: kl => f.name != "_" && Nat.beq f.offset i && (match scalK P f.type with | some q => Nat.beq q k | none => false) && okFs P (i + 1) r kl
  | _, _, _ => false
class EqT (P : Program) (t : TypeId) (kl : outParam (List Nat)) : Prop where
  guard : P.eqGuardType P.depth t = false
  run : ∀ (d : Nat) (w : World) (xs ys : List Value) (b : Bool), eqLs kl xs ys = some b → (Op.equalIn (d + 2) t (.agg ⟨xs⟩) (.agg ⟨ys⟩)).run P w = .ok b w

theorem run_eqK {P : Program} {w : World} {t : TypeId} {k : Nat} (hk : scalK P t = some k) (d : Nat) {x y : Value} {b : Bool} (h : eqK k x y = some b) : (Op.equalIn (d + 1) t x y).run P w = .ok b w := by
  unfold scalK at hk
  split at hk
  · rename_i q hu
    cases hk
    cases x <;> cases y <;> simp only [eqK, reduceCtorEq] at h
    split at h
    · rename_i e; subst e
      simp only [Option.some.injEq] at h; subst h
      rw [run_equalIn_int w d t _ q _ _ hu]; simp [BEq.beq]
    · cases h
  · rename_i hu
    cases hk
    cases x <;> cases y <;> simp only [eqK, reduceCtorEq] at h
    simp only [Option.some.injEq] at h; subst h
    rw [run_equalIn_string w d t _ _ hu, strEq]
  · rename_i hu
    cases hk
    cases x <;> cases y <;> simp only [eqK, reduceCtorEq] at h
    simp only [Option.some.injEq] at h; subst h
    rw [run_equalIn_bool' w d t _ _ hu]
  · cases hk
theorem scalK_agg {P : Program} {t : TypeId} {k : Nat} (hk : scalK P t = some k) : (P.underlying t).map aggB = some false := by
  unfold scalK at hk
  split at hk <;> first | (cases hk; done) | (rename_i hu; rw [hu]; rfl)
theorem run_partS {P : Program} {w : World} {t : TypeId} {cs : List Value} {off : Nat} {v : Value} (ha : (P.underlying t).map aggB = some false) (h : cs[off]? = some v) : (part t ⟨cs⟩ off).run P w = .ok v w := by
  unfold part
  rw [Sem.run_bind, run_isAgg false ha]
  simp [h]
theorem run_eqFields {P : Program} {w : World} (d : Nat) {xs ys : List Value} : ∀ (fs : List Field) (kl : List Nat) (i : Nat) (b : Bool), okFs P i fs kl = true → eqLs kl (xs.drop i) (ys.drop i) = some b → (Op.eqFields (d + 1) ⟨xs⟩ ⟨ys⟩ fs).run P w = .ok b w := by
  intro fs
  induction fs with
  | nil =>
    intro kl i b ho h
    cases kl with
    | cons => cases ho
    | nil =>
      cases hx : xs.drop i <;> cases hy : ys.drop i <;> rw [hx, hy] at h <;> simp [eqLs] at h
      subst h; rfl
  | cons f fs ih =>
    intro kl i b ho h
    cases kl with
    | nil => cases ho
    | cons k kl =>
      simp only [okFs, Bool.and_eq_true] at ho
      obtain ⟨⟨⟨h1, h2⟩, h3⟩, h4⟩ := ho
      have ho := Nat.eq_of_beq_eq_true h2
      cases hx : xs.drop i with
      | nil => rw [hx] at h; cases hy : ys.drop i <;> rw [hy] at h <;> simp [eqLs] at h
      | cons x xr =>
        cases hy : ys.drop i with
        | nil => rw [hx, hy] at h; simp [eqLs] at h
        | cons y yr =>
          rw [hx, hy] at h
          simp only [eqLs] at h
          have ex : xs[i]? = some x := by have := congrArg (·[0]?) hx; simpa using this
          have ey : ys[i]? = some y := by have := congrArg (·[0]?) hy; simpa using this
          have hxr : xs.drop (i + 1) = xr := by rw [← List.tail_drop, hx]; rfl
          have hyr : ys.drop (i + 1) = yr := by rw [← List.tail_drop, hy]; rfl
          cases hk : scalK P f.type with
          | none => rw [hk] at h3; cases h3
          | some q =>
            rw [hk] at h3
            have hq := Nat.eq_of_beq_eq_true h3
            subst hq
            cases he : eqK q x y with
            | none => rw [he] at h; cases h
            | some b1 =>
              rw [he] at h
              cases hr : eqLs kl xr yr with
              | none => rw [hr] at h; cases h
              | some b2 =>
                rw [hr] at h
                simp only [Option.some.injEq] at h
                subst h
                have hne : f.name ≠ "_" := by simpa using h1
                have hih := ih kl (i + 1) b2 h4 (by rw [hxr, hyr]; exact hr)
                simp only [Op.eqFields, hne, ne_eq, not_false_eq_true, if_true, Sem.run_bind]
                rw [ho, run_partS (scalK_agg hk) ex]
                simp only [Result.andThen_ok]
                rw [run_partS (scalK_agg hk) ey]
                simp only [Result.andThen_ok]
                rw [run_eqK hk d he]
                simp only [Result.andThen_ok]
                cases b1
                · simp
                · simpa using hih
theorem EqT.ofStruct {P : Program} {t : TypeId} {fs : Array Field} {kl : List Nat} (hu : P.underlying t = some (.struct fs)) (hs : P.stoodInHeld t = false) (hg : P.eqGuardType P.depth t = false) (hf : okFs P 0 fs.toList kl = true) : EqT P t kl where
  guard := hg
  run d w xs ys b h := by
    have hfs : P.fieldsOf t = fs := by unfold Program.fieldsOf; rw [hu]
    rw [run_equalIn_agg w (d + 1) t _ _ (by rw [hfs]; exact hu) hs, hfs]
    exact run_eqFields d fs.toList kl 0 b hf (by simpa using h)
theorem run_eqArr {P : Program} {w : World} (d : Nat) {e : TypeId} {k : Nat} (hk : scalK P e = some k) (hsz : (P.info? e).map (·.size) = some 1) {xs ys : List Value} : ∀ (n i : Nat) (b : Bool), eqLs (List.replicate n k) (xs.drop i) (ys.drop i) = some b →
    (forIn (List.range' i n 1) ((none, ()) : Option Bool × Unit) (fun i (_ : Option Bool × Unit) => (do
      if !(← Op.equalIn (d + 1) e (← part e ⟨xs⟩ (i * 1)) (← part e ⟨ys⟩ (i * 1))) then pure (ForInStep.done (some false, ())) else pure (ForInStep.yield (none, ())) : Sem (ForInStep (Option Bool × Unit))))).run P w = .ok (if b then (none, ()) else (some false, ())) w := by
  intro n
  induction n with
  | zero =>
    intro i b h
    cases hx : xs.drop i <;> cases hy : ys.drop i <;> rw [hx, hy] at h <;> simp [eqLs] at h
    subst h; rfl
  | succ n ih =>
    intro i b h
    rw [List.replicate_succ] at h
    cases hx : xs.drop i with
    | nil => rw [hx] at h; cases hy : ys.drop i <;> rw [hy] at h <;> simp [eqLs] at h
    | cons x xr =>
      cases hy : ys.drop i with
      | nil => rw [hx, hy] at h; simp [eqLs] at h
      | cons y yr =>
        rw [hx, hy] at h
        simp only [eqLs] at h
        have ex : xs[i]? = some x := by have := congrArg (·[0]?) hx; simpa using this
        have ey : ys[i]? = some y := by have := congrArg (·[0]?) hy; simpa using this
        have hxr : xs.drop (i + 1) = xr := by rw [← List.tail_drop, hx]; rfl
        have hyr : ys.drop (i + 1) = yr := by rw [← List.tail_drop, hy]; rfl
        cases he : eqK k x y with
        | none => rw [he] at h; cases h
        | some b1 =>
          rw [he] at h
          cases hr : eqLs (List.replicate n k) xr yr with
          | none => rw [hr] at h; cases h
          | some b2 =>
            rw [hr] at h
            simp only [Option.some.injEq] at h
            subst h
            have hih := ih (i + 1) b2 (by rw [hxr, hyr]; exact hr)
            simp only [List.range'_succ, List.forIn_cons, Sem.run_bind]
            rw [Nat.mul_one, run_partS (scalK_agg hk) ex]
            simp only [Result.andThen_ok]
            rw [run_partS (scalK_agg hk) ey]
            simp only [Result.andThen_ok]
            rw [run_eqK hk d he]
            simp only [Result.andThen_ok]
            cases b1
            · simp
            · simpa using hih
theorem EqT.ofArray {P : Program} {t e : TypeId} {n k : Nat} (hu : P.underlying t = some (.array n e)) (hg : P.eqGuardType P.depth t = false) (hk : scalK P e = some k) (hsz : (P.info? e).map (·.size) = some 1) : EqT P t (List.replicate n k) where
  guard := hg
  run d w xs ys b h := by
    have key := run_eqArr (P := P) (w := w) d hk hsz (xs := xs) (ys := ys) n 0 b (by simpa using h)
    rw [Op.equalIn]
    simp only [Sem.run_bind, run_underlying' hu, Result.andThen_ok, run_sizeOf hsz]
    rw [Std.Legacy.Range.forIn_eq_forIn_range']
    have hr : List.range' [:n].start [:n].size [:n].step = List.range' 0 n 1 := by simp [Std.Legacy.Range.size]
    rw [hr, key]
    cases b <;> simp

/-- A box of one's own, a part of it another one. -/
class BoxPt (L : List Hp) (b : Nat) (cs : outParam (List Value)) (T : outParam TypeId) (off : Nat) (l : List Value) (L' : outParam (List Hp)) : Prop where
  ex : BoxSet L b (.cells ⟨cs⟩ T (0, 0)) (.cells ⟨layL cs off l⟩ T (0, 0)) L'
instance BoxPt.head (L : List Hp) (b : Nat) (cs : List Value) (T : TypeId) (off : Nat) (l : List Value) : BoxPt (one b (.cells ⟨cs⟩ T (0, 0)) :: L) b cs T off l (one b (.cells ⟨layL cs off l⟩ T (0, 0)) :: L) := ⟨BoxSet.head ..⟩
instance BoxPt.tail (k : Hp) (L : List Hp) (b : Nat) (cs : List Value) (T : TypeId) (off : Nat) (l : List Value) (L' : List Hp) [q : BoxPt L b cs T off l L'] : BoxPt (k :: L) b cs T off l (k :: L') := ⟨by
  haveI := q.ex
  exact BoxSet.tail ..⟩
class IsAr (P : Program) (t : TypeId) (n : outParam Nat) (e : outParam TypeId) : Prop where eq : P.underlying t = some (.array n e)
section
variable {C : Cx} {ds : List Deferred} {env : Env} {h : Hp} {L L' : List Hp} {Q : Exit → Act → World → Prop} {ops : Array Oper} {rest : List (Oper × Kd)} {k : Kd} {K : Act → World → Prop}
variable {d : Nat} {op : Op} {ty : TypeId} {pos : String} {after : Array Edge} {v : Value}
theorem J.eqA {o : BinOp} {x y : Operand} {t t' : TypeId} {xs ys : List Value} {kl : List Nat} {b c : Bool} [q : EqT C.P t kl] (ex : evE env x = some (.agg ⟨xs⟩)) (ey : evE env y = some (.agg ⟨ys⟩)) (hb : eqLs kl xs ys = some b) (ho : o = .eql ∧ c = b ∨ o = .neq ∧ c = !b) (hlt : Nat.blt d C.nt = true)
    (j : J C (WC C.r C.P ops Q rest) ds ((d, .bool c) :: env) h L) :
    J C (WC C.r C.P ops Q ((⟨some d, .binOp o t x y t', ty, pos, after, none⟩, k) :: rest)) ds env h L :=
  J.pure0 hlt rfl (fun a kn w => by
    have he : (Op.equalIn 10000 t (.agg ⟨xs⟩) (.agg ⟨ys⟩)).run C.P w = .ok b w := q.run 9998 w xs ys b hb
    have hg : ∀ op x y, (eqGuard op t x y (.agg ⟨xs⟩) (.agg ⟨ys⟩)).run C.P w = .ok () w := fun op x y => run_eqGuard_agg w op t x y _ _ q.guard
    rcases ho with ⟨rfl, rfl⟩ | ⟨rfl, rfl⟩
    · simp only [execOp, kn.eval ex, kn.eval ey, Sem.run_bind, Sem.run_map, hg, Result.andThen_ok, run_eql_struct, he]
      simp
    · simp only [execOp, kn.eval ex, kn.eval ey, Sem.run_bind, Sem.run_map, hg, Result.andThen_ok, run_neq_struct, he]
      simp) j
theorem J.bldA {t e n sz : Nat} {ps : Array (Nat × Operand)} {zs : List Value} {vs : List (Nat × Value)} (cs : List Value) [q : IsAr C.P t n e] [qs : SzOf C.P e sz] [qz : Zer C.P t (.agg ⟨zs⟩)] (ev : evP env ps.toList = some vs) (hf : fillL (fun i => some (i * sz, sz)) zs vs = some cs) (hlt : Nat.blt d C.nt = true)
    (j : J C (WC C.r C.P ops Q rest) ds ((d, .agg ⟨cs⟩) :: env) h L) :
    J C (WC C.r C.P ops Q ((⟨some d, .build t ps, ty, pos, after, none⟩, k) :: rest)) ds env h L :=
  J.pure0 hlt rfl (fun a kn w => by
    have h1 : (Instr.build t ⟨vs⟩).run C.P w = .ok (.agg ⟨cs⟩) w := by
      unfold Instr.build
      rw [Sem.run_bind, run_zeroValue qz.eq]
      simp only [Result.andThen_ok, Value.cells, Sem.run_bind, run_underlying' q.eq, run_sizeOf (SzOf.size (P := C.P) (t := e) (n := sz))]
      rw [fillL_eq (fun i => some (i * sz, sz)) vs zs cs hf]
      simp
    have h2 : ps.map (fun (i, x) => (i, a.eval x)) = ⟨vs⟩ := by
      apply Array.ext'
      rw [Array.toList_map]
      exact kn.evalP ev
    simp only [execOp]
    rw [h2]
    simp [h1]) j
/-- A place of an array behind a pointer. -/
theorem J.ixA {t e n sz b o : Nat} {x y : Operand} {q : IntKind} {m : Int} {i : Nat} [qa : IsAr C.P t n e] [SzOf C.P e sz] (ex : evE env x = some (.pointer (some ⟨b, o, none⟩))) (ey : evE env y = some (.int q m)) (hm : m = (i : Int)) (hi : i < n) (hlt : Nat.blt d C.nt = true)
    (j : J C (WC C.r C.P ops Q rest) ds ((d, .pointer (some ⟨b, o + i * sz, none⟩)) :: env) h L) :
    J C (WC C.r C.P ops Q ((⟨some d, .indexAddr t x y, ty, pos, after, none⟩, k) :: rest)) ds env h L :=
  J.pure0 hlt rfl (fun a kn w => by
    subst hm
    have hb : (0 : Int) ≤ (i : Int) ∧ (i : Int) < (n : Int) := by omega
    simp [execOp, kn.eval ex, kn.eval ey, Instr.indexAt, Instr.sureAddr, asIntOf, run_underlying' qa.eq, hb, run_sizeOf (SzOf.size (P := C.P) (t := e) (n := sz)), Addr.add_none, hi]) j
/-- What is read is less again. -/
theorem J.weakH {h' : Hp} (hl0 : C.h0.le h) (hl : h.le h') (j : J C K ds env h L) : J C K ds env h' L := J.st (fun w s => by
  have hd : ∀ k : Hp, h'.dis k → h.dis k := fun k hd b => by
    rcases hd b with q | q
    · left
      cases e : h b with
      | none => rfl
      | some o => rw [hl b o e] at q; cases q
    · exact .inr q
  have hhas : ∀ b, h.has b → h'.has b := fun b hb => by
    unfold Hp.has at *
    cases e : h b with
    | none => exact absurd e hb
    | some o => rw [hl b o e]; simp
  obtain ⟨d1, d2⟩ := List.pairwise_cons.1 s.dis
  exact ⟨s.grow, hl0, fun b o e => s.hin b o (hl b o e), s.lin, List.pairwise_cons.2 ⟨fun k hk => hd k (d1 k hk), d2⟩, s.own, fun b hb => s.fresh b (hhas b hb)⟩) j
theorem J.leH (j : C.h0.le h → J C K ds env h L) : J C K ds env h L := J.fact (fun w s => s.le) j
theorem J.midW {h' : Hp} {d : Nat} {B : Bool} (hl0 : C.h0.le h) (hl : h.le h') (e : gt env d = some (.bool B)) : J C (MidV C ds d (.bool B) h L) ds env h' L := J.weakH hl0 hl (J.midB e)
/-- the slot holds a bool, and memory is as the index says -/
def MidG (C : Cx) {ι : Type} (ds : List Deferred) (d : Nat) (Φ : ι → Prop) (B : ι → Bool) (H : ι → Hp) (LL : ι → List Hp) : Act → World → Prop := fun a w => ∃ i, Φ i ∧ Sat C ds [(d, .bool (B i))] (H i) (LL i) a w
theorem J.midG {ι : Type} {Φ : ι → Prop} {B : ι → Bool} {H : ι → Hp} {LL : ι → List Hp} {d : Nat} (i : ι) (hi : Φ i) (e : gt env d = some (.bool (B i))) (hh : H i = h) (hL : LL i = L) : J C (MidG C ds d Φ B H LL) ds env h L := by
  subst hh; subst hL
  exact fun a w s => ⟨i, hi, s.1, s.2.1, s.2.2.1.sub (Sub.cons e (Sub.nil _)), s.2.2.2⟩
variable {l : List (Oper × Kd)}
/-- A group of operations that yields a bool, and leaves memory as the index says. -/
theorem J.grpG {ι : Type} (Φ : ι → Prop) (B : ι → Bool) (H : ι → Hp) (LL : ι → List Hp) {d : Nat} (l1 l2 : List (Oper × Kd)) (hl : l = l1 ++ l2) (hni : notIn (dstsOf l1) env = true)
    (hg : J C (WC C.r C.P ops (Exit.then (MidG C ds d Φ B H LL) Q) l1) ds env h L) (hy : ∀ i, Φ i → J C (WC C.r C.P ops Q l2) ds ((d, .bool (B i)) :: env) (H i) (LL i)) : J C (WC C.r C.P ops Q l) ds env h L := by
  intro a w s
  subst hl
  refine WC_append l1 l2 a w ?_
  have h1 := WC_keeps l1 (dstsOf l1) a a w (fun _ h => h) (Agrees.refl _ _) (hg a w s)
  have mono : ∀ (K K' : Act → World → Prop) (l : List (Oper × Kd)), (∀ a w, K a w → K' a w) → ∀ a w, WC C.r C.P ops (Exit.then K Q) l a w → WC C.r C.P ops (Exit.then K' Q) l a w := by
    intro K K' l hk
    induction l with
    | nil => intro a w h; exact hk a w h
    | cons p l ih =>
      obtain ⟨o, k⟩ := p
      intro a w h
      have h2 := stepK_mono (K' := WC C.r C.P ops (Exit.then K' Q) l) ih (show stepK _ _ ops _ o k (WC C.r C.P ops (Exit.then K Q) l) a w from h)
      show stepK C.r C.P ops (Exit.then K' Q) o k (WC C.r C.P ops (Exit.then K' Q) l) a w
      unfold stepK at h2 ⊢
      split
      · rename_i hw
        simp only [hw, if_true] at h2
        cases k <;> dsimp only at h2 ⊢ <;> first
          | exact h2
          | exact WC_keeps.upQ h2
      · rename_i hw
        rw [if_neg hw] at h2
        exact h2
  refine mono _ _ l1 ?_ a w h1
  rintro a' w' ⟨hag, i, hi, hm⟩
  refine hy i hi a' w' ⟨hm.1, hm.2.1, ?_, hm.2.2.2⟩
  intro t u hu
  unfold gt at hu
  cases hb : Nat.beq d t with
  | true => exact hm.2.2.1 t u (by simpa [gt, hb] using hu)
  | false =>
    simp only [hb, cond_false] at hu
    rw [hag.2 t (notIn_spec hni t u hu)]
    exact s.2.2.1 t u hu
/-- A call that is handed all. -/
theorem J.callA {fo : Operand} {args : Array Operand} {tys : Array TypeId} {fid : FuncId} {fs vs cap : List Value} {R : Value → Hp → List Hp → Prop} [q : Fnc C.P fid] (ef : evE env fo = some (.func (.func fid) ⟨fs⟩ ⟨cap⟩)) (ea : evL env args.toList = some vs)
    (hS : FS C.P fid (fs ++ vs ++ cap) h L R) (hk : okMut k = true) (hlt : Nat.blt d C.nt = true)
    (j : ∀ v' h' L', h.le h' → R v' h' L' → J C (WC C.r C.P ops Q rest) ds ((d, v') :: env) h' L') :
    J C (WC C.r C.P ops Q ((⟨some d, .call { callee := .value fo, args := args, argTypes := tys }, ty, pos, after, none⟩, k) :: rest)) ds env h L := by
  have := J.call (ms := L) (L1 := []) (ty := ty) (pos := pos) (after := after) (rest := rest) (k := k) (ops := ops) (Q := Q) (ds := ds) (tys := tys) ef ea hS hk hlt (fun v' h' ms' hl hR => by rw [List.append_nil]; exact j v' h' ms' hl hR)
  rw [List.append_nil] at this
  exact this
/-- A part of a box is written: a struct, or an array. -/
theorem J.stP {t : TypeId} {x y : Operand} {b off n : Nat} {cs l : List Value} {T : TypeId} [SzOf C.P t n] [q : BoxPt L b cs T off l L'] (ex : evE env x = some (.pointer (some ⟨b, off, none⟩))) (ey : evE env y = some (.agg ⟨l⟩)) (hv : l.all oneV = true) (hn : Nat.ble (off + n) cs.length = true) (hl : Nat.beq l.length n = true) (hk : okMut k = true)
    (j : J C (WC C.r C.P ops Q rest) ds env h L') : J C (WC C.r C.P ops Q ((⟨none, .store t x y, ty, pos, after, none⟩, k) :: rest)) ds env h L :=
  J.put0 hk rfl (fun a k w s => by
    have hn := Nat.le_of_ble_eq_true hn
    have hl := Nat.eq_of_beq_eq_true hl
    obtain ⟨hb, s'⟩ := q.ex.st s
    refine ⟨_, ?_, s'⟩
    simp only [execOp, k.eval ex, k.eval ey, Instr.storeAt, Instr.sureAddr, pure_bind]
    rw [Sem.run_bind, run_storeVar (n := n) hb (by simpa [Value.cells] using hl) hn (by simpa [Value.cells] using hv)]
    simp [Value.cells]) j
end
end Go.Sod
