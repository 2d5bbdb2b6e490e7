/-
  Objects that a call may write: handed to a call, opened, shut; slices of one's own, loaded from and appended. Conditions: none.
-/
import Derived.Test.YtemcklmfpapmpaaGreatCore15
namespace Go.Sod
set_option linter.unusedVariables false
set_option linter.unusedSimpArgs false

/-- a contract of a function that may write one object -/
def FM (P : Program) (f : FuncId) (vs : List Value) (h m : Hp) (Φ : Value → Hp → Hp → Prop) : Prop := FS P f vs h [m] fun v h' ms' => ∃ m', ms' = [m'] ∧ Φ v h' m'
/-- of one that may write two -/
def FM2 (P : Program) (f : FuncId) (vs : List Value) (h m n : Hp) (Φ : Value → Hp → Hp → Hp → Prop) : Prop := FS P f vs h [m, n] fun v h' ms' => ∃ m' n', ms' = [m', n'] ∧ Φ v h' m' n'
theorem FM.mono {P : Program} {f : FuncId} {vs : List Value} {h m : Hp} {Φ Ψ : Value → Hp → Hp → Prop} (s : FM P f vs h m Φ) (hr : ∀ v h' m', Φ v h' m' → Ψ v h' m') : FM P f vs h m Ψ :=
  FS.mono s fun v h' ms' ⟨m', e, q⟩ => ⟨m', e, hr v h' m' q⟩

section
variable {C : Cx} {ds : List Deferred} {env : Env} {h : Hp} {L L' : List Hp} {Q : Exit → Act → World → Prop} {ops : Array Oper} {rest : List (Oper × Kd)} {k : Kd} {K : Act → World → Prop}
variable {d : Nat} {op : Op} {ty : TypeId} {pos : String} {after : Array Edge} {v : Value}

/-- A call that may write one object. -/
theorem J.callM {fo : Operand} {args : Array Operand} {tys : Array TypeId} {fid : FuncId} {fs vs cap : List Value} {m : Hp} {f : Hp → List Hp} {Φ : Value → Hp → Hp → Prop} [q : Fnc C.P fid] [hi : HpIn L m f] (ef : evE env fo = some (.func (.func fid) ⟨fs⟩ ⟨cap⟩)) (ea : evL env args.toList = some vs)
    (hS : FM C.P fid (fs ++ vs ++ cap) h m Φ) (hk : okMut k = true) (hlt : Nat.blt d C.nt = true)
    (j : ∀ v' h' m', h.le h' → Φ v' h' m' → J C (WC C.r C.P ops Q rest) ds ((d, v') :: env) h' (f m')) :
    J C (WC C.r C.P ops Q ((⟨some d, .call { callee := .value fo, args := args, argTypes := tys }, ty, pos, after, none⟩, k) :: rest)) ds env h L := by
  obtain ⟨R, p1, p2⟩ := hi.ex
  refine J.perm p1 (J.call (ms := [m]) (L1 := R) ef ea hS hk hlt ?_)
  rintro v' h' ms' hl ⟨m', rfl, hΦ⟩
  exact J.perm (p2 m').symm (j v' h' m' hl hΦ)
/-- of no result -/
theorem J.callM0 {fo : Operand} {args : Array Operand} {tys : Array TypeId} {fid : FuncId} {fs vs cap : List Value} {m : Hp} {f : Hp → List Hp} {Φ : Value → Hp → Hp → Prop} [q : Fnc C.P fid] [hi : HpIn L m f] (ef : evE env fo = some (.func (.func fid) ⟨fs⟩ ⟨cap⟩)) (ea : evL env args.toList = some vs)
    (hS : FM C.P fid (fs ++ vs ++ cap) h m Φ) (hk : okMut k = true)
    (j : ∀ v' h' m', h.le h' → Φ v' h' m' → J C (WC C.r C.P ops Q rest) ds env h' (f m')) :
    J C (WC C.r C.P ops Q ((⟨none, .call { callee := .value fo, args := args, argTypes := tys }, ty, pos, after, none⟩, k) :: rest)) ds env h L := by
  obtain ⟨R, p1, p2⟩ := hi.ex
  refine J.perm p1 ?_
  intro a w s
  refine stepK_mut hk rfl ?_
  unfold up
  rw [Oper.semAt_eq _ _ _ (fun c => by simp), run_callv s.2.2.1 ef ea]
  refine ⟨fun hh => by simp [Fence.wide] at hh, callsIn_any (Calls.mono (hS w (St.ok (L := [m] ++ R) s.2.2.2).sub) ?_)⟩
  rintro e w' ⟨v', h', ms', rfl, st, m', rfl, hΦ⟩
  have st2 := St.call (L1 := R) s.2.2.2 st
  exact j v' h' m' st.le hΦ _ _ ⟨s.1, s.2.1, s.2.2.1, st2.perm (p2 m').symm⟩

/-- An object is opened. -/
theorem J.open {a b : Hp} (hd : a.dis b) (j : J C K ds env h (a :: b :: L)) : J C K ds env h (a.un b :: L) := J.st (fun w s => s.un_split hd) j
theorem J.shut {a b : Hp} (j : a.dis b → J C K ds env h (a.un b :: L)) : J C K ds env h (a :: b :: L) :=
  J.fact (fun w s => by
    have := s.dis
    exact (List.pairwise_cons.1 (List.pairwise_cons.1 this).2).1 _ (List.mem_cons_self ..)) fun hd => J.st (fun w s => s.un_join) (j hd)

/-- what lies in an own slice, at its place -/
theorem SlT.elAt {α : Type} {m : Hp} {sz : Nat} {e : TypeId} {R : Rp α} {xs : List α} (s : SlT m h v sz e R xs) {i : Nat} (hi : i < xs.length) :
    ∃ b n c all vs, v = .slice (some ⟨b, 0, none⟩) n c ∧ m = one b (.cells ⟨all⟩ e (0, 0)) ∧ vs.length = sz ∧ vs.all oneV = true ∧ R h xs[i] vs ∧ ∀ j, j < vs.length → all[i * sz + j]? = vs[j]? := by
  obtain ⟨cs, ⟨hl, hmx, s1⟩, s2⟩ := s
  rcases s1 with ⟨rfl, rfl, h0, rfl⟩ | ⟨b, cap, all, rfl, rfl, h1, h2, h3⟩
  · rw [h0] at hi; omega
  · have hc := chunk_get hl hi
    refine ⟨b, _, cap, all, _, rfl, rfl, hc, (s2 i hi).1, (s2 i hi).2, fun j hj => ?_⟩
    rw [hc] at hj
    have hb2 : (i + 1) * sz ≤ xs.length * sz := Nat.mul_le_mul_right _ hi
    rw [Nat.succ_mul] at hb2
    rw [h3 _ (by omega), List.getElem?_take, if_pos hj, List.getElem?_drop]
theorem SlT.ne {α : Type} {m : Hp} {sz : Nat} {e : TypeId} {R : Rp α} {xs : List α} (s : SlT m h v sz e R xs) (hp : 0 < xs.length) : ∃ b of n c, v = .slice (some ⟨b, of, none⟩) n c := by
  obtain ⟨b, n, c, _, _, rfl, _⟩ := s.elAt hp
  exact ⟨b, 0, n, c, rfl⟩

theorem J.ldT {α : Type} {t sz : Nat} {e : TypeId} {R : Rp α} {xs : List α} {x : Operand} {i : Nat} {m : Hp} {f : Hp → List Hp} [Aggr C.P t sz] [hi : HpIn L m f] (s : SlT m h v sz e R xs) (hil : i < xs.length) (ex : evE env x = some (pAt v (i * sz))) (hk : okRead k = true) (hlt : Nat.blt d C.nt = true)
    (j : ∀ vs : List Value, R h xs[i] vs → J C (WC C.r C.P ops Q rest) ds ((d, .agg ⟨vs⟩) :: env) h L) :
    J C (WC C.r C.P ops Q ((⟨some d, .load t x, ty, pos, after, none⟩, k) :: rest)) ds env h L := by
  obtain ⟨b, n, c, all, vs, rfl, rfl, hl, _, hR, hj⟩ := s.elAt hil
  refine J.read0 (v := .agg ⟨vs⟩) hk hlt rfl (fun a k w st w' hg => ?_) (j vs hR)
  obtain ⟨R', s1, _⟩ := hi.st st
  have hb := hg.get (s1.lin _ (List.mem_cons_self ..) _ _ (one_same _ _))
  have hx := k.eval ex
  simp only [execOp, hx, pAt, Instr.loadAt, Instr.sureAddr, pure_bind]
  rw [Sem.run_bind, run_loadAgg (n := sz) hb hl (fun j hjl => by rw [Nat.zero_add]; exact hj j hjl)]; rfl
/-- Loading one field of an element, whose value is known. -/
theorem J.ldTF {α : Type} {t sz : Nat} {e : TypeId} {R : Rp α} {xs : List α} {x : Operand} {i off : Nat} {m : Hp} {f : Hp → List Hp} (u : Value) [Scal C.P t] [hi : HpIn L m f] (s : SlT m h v sz e R xs) (hil : i < xs.length) (ex : evE env x = some (pAt v (i * sz + off))) (hv : ∀ vs, R h xs[i] vs → vs[off]? = some u) (hk : okRead k = true) (hlt : Nat.blt d C.nt = true)
    (j : J C (WC C.r C.P ops Q rest) ds ((d, u) :: env) h L) :
    J C (WC C.r C.P ops Q ((⟨some d, .load t x, ty, pos, after, none⟩, k) :: rest)) ds env h L := by
  obtain ⟨b, n, c, all, vs, rfl, rfl, hl, _, hR, hj⟩ := s.elAt hil
  have hu := hv vs hR
  refine J.read0 (v := u) hk hlt rfl (fun a k w st w' hg => ?_) j
  obtain ⟨R', s1, _⟩ := hi.st st
  have hb := hg.get (s1.lin _ (List.mem_cons_self ..) _ _ (one_same _ _))
  have hx := k.eval ex
  have hlt : off < vs.length := by rw [List.getElem?_eq_some_iff] at hu; exact hu.1
  have h0 : all[0 + (i * sz + off)]? = some u := by rw [Nat.zero_add, hj off hlt, hu]
  simp only [execOp, hx, pAt, Instr.loadAt, Instr.sureAddr, pure_bind]
  rw [Sem.run_bind, run_loadScal (cell_of hb h0)]; rfl

/-- append, all of another slice of one's own -/
theorem J.appT {α : Type} {t t2 e e' sz : Nat} {s x : Operand} {m m2 : Hp} {xv : Value} {f f2 : Hp → List Hp} {tys : Array TypeId} {R : Rp α} {xs zs : List α} [IsSl C.P t e] [q : Elt C.P e sz] [ni : NotInt C.P t2] [hi : HpIn L m f] [hi2 : HpIn L m2 f2] (ht : tys = #[t, t2])
    (ho : SlT m h v sz e R xs) (es : evE env s = some v) (hx : SlT m2 h xv sz e' R zs) (ex : evE env x = some xv) (hn : xs.length + zs.length ≤ maxL) (hk : okMut k = true) (hlt : Nat.blt d C.nt = true)
    (j : ∀ v' m', SlT m' h v' sz e R (xs ++ zs) → J C (WC C.r C.P ops Q rest) ds ((d, v') :: env) h (f m')) :
    J C (WC C.r C.P ops Q ((⟨some d, .call { callee := .builtin .append, args := #[s, x], argTypes := tys }, ty, pos, after, none⟩, k) :: rest)) ds env h L := by
  obtain ⟨cs, s1, s2⟩ := ho
  obtain ⟨ys, ⟨hl, hmx, y1⟩, y2⟩ := hx
  have hone : ys.all oneV = true := by
    rw [List.all_eq_true]
    intro u hu
    obtain ⟨p, hp, rfl⟩ := List.getElem_of_mem hu
    have hsz : 0 < sz := Nat.pos_of_ne_zero fun e => by subst e; rw [Nat.mul_zero] at hl; omega
    have hpz : p / sz < zs.length := by rw [Nat.div_lt_iff_lt_mul hsz]; omega
    have := (y2 (p / sz) hpz).1
    rw [List.all_eq_true] at this
    apply this
    have hdm := Nat.div_add_mod p sz
    have hm := Nat.mod_lt p hsz
    rw [List.mem_iff_getElem?]
    refine ⟨p % sz, ?_⟩
    rw [List.getElem?_take, if_pos hm, List.getElem?_drop, List.getElem?_eq_getElem hp |>.symm]
    congr 1
    rw [Nat.mul_comm]; omega
  refine J.app0 (n2 := zs.length) (ys := ys) ht s1 es ex (fun w st => ?_) hl hone hn hk hlt (fun v' m' ho' => j v' m' (SlT.append s1.1 s2 y2 ho'))
  obtain ⟨R', st1, _⟩ := hi2.st st
  rcases y1 with ⟨rfl, rfl, h0, rfl⟩ | ⟨b, cap, all, rfl, rfl, h1, h2, h3⟩
  · exact .inl ⟨none, 0, by rw [h0], fun hp => by simp at hp⟩
  · refine .inl ⟨_, cap, rfl, fun _ => ⟨b, 0, all, e', (0, 0), rfl, st1.lin _ (List.mem_cons_self ..) _ _ (one_same _ _), fun j hj => by rw [Nat.zero_add]; exact h3 j hj⟩⟩
end
end Go.Sod
