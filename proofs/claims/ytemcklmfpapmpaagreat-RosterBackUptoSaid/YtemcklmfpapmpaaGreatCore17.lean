/-
  Functions that only read what they are handed; pointers; results of two kinds; elements moved in a slice of one's own. Conditions: none.
-/
import Derived.Test.YtemcklmfpapmpaaGreatCore16
namespace Go.Sod
set_option linter.unusedVariables false
set_option linter.unusedSimpArgs false

/-- a contract of a function that reads objects, and leaves all as it is -/
def FR (P : Program) (f : FuncId) (vs : List Value) (h : Hp) (L : List Hp) (V : Value) : Prop := FS P f vs h L fun v h' ms' => v = V ∧ h' = h ∧ ms' = L
theorem FV.fr {P : Program} {f : FuncId} {vs : List Value} {h : Hp} {V : Value} {L : List Hp} (s : FV P f vs h V) : FR P f vs h L V := fun w o =>
  Calls.mono (s w ⟨o.hin, fun k hk => (by cases hk), List.pairwise_singleton ..⟩) fun e w' ⟨v, h', ms', e1, st, hv, e2, e3⟩ => by
    subst e2; subst e3
    refine ⟨v, _, L, e1, ?_, hv, rfl, rfl⟩
    have := St.call (ms := []) (L1 := L) (o.st.perm (List.Perm.refl _)) st
    simpa using this

/-- likewise; what is answered has this about it -/
def FRx (P : Program) (f : FuncId) (vs : List Value) (h : Hp) (L : List Hp) (Φ : Value → Prop) : Prop := FS P f vs h L fun v h' ms' => Φ v ∧ h' = h ∧ ms' = L
section
variable {C : Cx} {ds : List Deferred} {env : Env} {h : Hp} {L L' : List Hp} {Q : Exit → Act → World → Prop} {ops : Array Oper} {rest : List (Oper × Kd)} {k : Kd} {K : Act → World → Prop}
variable {d : Nat} {op : Op} {ty : TypeId} {pos : String} {after : Array Edge} {v : Value}

theorem Ok.growL {w w' : World} {h' : Hp} (o : Ok w h L) (st : St w (domL L) h w' h' L) : GrowW w w' := by
  refine ⟨st.grow.size, fun b hb => ?_⟩
  by_cases e : domL L b
  · obtain ⟨m, hm, hh⟩ := e
    cases em : m b with
    | none => exact absurd em hh
    | some x => rw [st.lin m hm b x em, o.lin m hm b x em]
  · exact st.grow.block b hb e
/-- A call that reads objects, and makes memory that is only read from then on. -/
theorem J.callL {fo : Operand} {args : Array Operand} {tys : Array TypeId} {fid : FuncId} {fs vs cap : List Value} {Φ : Value → Hp → Prop} [q : Fnc C.P fid] (ef : evE env fo = some (.func (.func fid) ⟨fs⟩ ⟨cap⟩)) (ea : evL env args.toList = some vs)
    (hS : FS C.P fid (fs ++ vs ++ cap) h L fun v h' ms' => Φ v h' ∧ ms' = L) (hk : okGrow k = true) (hlt : Nat.blt d C.nt = true)
    (j : ∀ u h', h.le h' → Φ u h' → J C (WC C.r C.P ops Q rest) ds ((d, u) :: env) h' L) :
    J C (WC C.r C.P ops Q ((⟨some d, .call { callee := .value fo, args := args, argTypes := tys }, ty, pos, after, none⟩, k) :: rest)) ds env h L := by
  intro a w s
  refine stepK_growU hk rfl ?_
  unfold up
  rw [Oper.semAt_eq _ _ _ (fun c => by simp), run_callv s.2.2.1 ef ea]
  refine ⟨fun hh => by simp [Fence.wide] at hh, callsIn_any (Calls.mono (hS w s.2.2.2.ok) ?_)⟩
  rintro e w' ⟨v', h', ms', rfl, st, hΦ, rfl⟩
  refine ⟨s.2.2.2.ok.growL st, j v' h' st.le hΦ _ _ (s.put hlt ?_)⟩
  have := St.call (L1 := []) (ms := ms') (by rw [List.append_nil]; exact s.2.2.2) st
  rw [List.append_nil] at this
  exact this
theorem J.callRx {fo : Operand} {args : Array Operand} {tys : Array TypeId} {fid : FuncId} {fs vs cap : List Value} {Φ : Value → Prop} [q : Fnc C.P fid] (ef : evE env fo = some (.func (.func fid) ⟨fs⟩ ⟨cap⟩)) (ea : evL env args.toList = some vs)
    (hS : FRx C.P fid (fs ++ vs ++ cap) h L Φ) (hk : okGrow k = true) (hlt : Nat.blt d C.nt = true)
    (j : ∀ u, Φ u → J C (WC C.r C.P ops Q rest) ds ((d, u) :: env) h L) :
    J C (WC C.r C.P ops Q ((⟨some d, .call { callee := .value fo, args := args, argTypes := tys }, ty, pos, after, none⟩, k) :: rest)) ds env h L :=
  J.callL (Φ := fun v h' => Φ v ∧ h' = h) ef ea (FS.mono hS fun _ _ _ ⟨a, b, c⟩ => ⟨⟨a, b⟩, c⟩) hk hlt (by rintro u h' _ ⟨hu, rfl⟩; exact j u hu)
theorem J.callR {fo : Operand} {args : Array Operand} {tys : Array TypeId} {fid : FuncId} {fs vs cap : List Value} {V : Value} [q : Fnc C.P fid] (ef : evE env fo = some (.func (.func fid) ⟨fs⟩ ⟨cap⟩)) (ea : evL env args.toList = some vs)
    (hS : FR C.P fid (fs ++ vs ++ cap) h L V) (hk : okGrow k = true) (hlt : Nat.blt d C.nt = true)
    (j : J C (WC C.r C.P ops Q rest) ds ((d, V) :: env) h L) :
    J C (WC C.r C.P ops Q ((⟨some d, .call { callee := .value fo, args := args, argTypes := tys }, ty, pos, after, none⟩, k) :: rest)) ds env h L :=
  J.callRx (Φ := fun v => v = V) ef ea hS hk hlt (by rintro u rfl; exact j)
theorem J.nilOk {x : Operand} {a : Addr} (ex : evE env x = some (.pointer (some a))) (hlt : Nat.blt d C.nt = true) (j : J C (WC C.r C.P ops Q rest) ds ((d, .pointer (some a)) :: env) h L) :
    J C (WC C.r C.P ops Q ((⟨some d, .nilCheck x, ty, pos, after, none⟩, k) :: rest)) ds env h L :=
  J.pure0 hlt rfl (fun a k w => by simp [execOp, k.eval ex]) j
/-- a pointer against nil -/
theorem J.eqPtr {o : BinOp} {x y : Operand} {A : Option Addr} {b : Bool} {t t' e : TypeId} [q : IsPt C.P t e] (ex : evE env x = some (.pointer A)) (ey : evE env y = some (.pointer none)) (ho : o = .eql ∧ b = A.isNone ∨ o = .neq ∧ b = !A.isNone) (hlt : Nat.blt d C.nt = true)
    (j : J C (WC C.r C.P ops Q rest) ds ((d, .bool b) :: env) h L) :
    J C (WC C.r C.P ops Q ((⟨some d, .binOp o t x y t', ty, pos, after, none⟩, k) :: rest)) ds env h L :=
  J.pure0 hlt rfl (fun a k w => by
    have he : ∀ w, (Op.equal t (.pointer A) (.pointer none)).run C.P w = .ok A.isNone w := fun w => run_equalIn_succ fun f => by
      cases A <;> simp [Op.equalIn, run_underlying' q.eq]
    rcases ho with ⟨rfl, rfl⟩ | ⟨rfl, rfl⟩ <;> simp [execOp, k.eval ex, k.eval ey, binOp, eqGuard, he]) j
end
section
variable {C : Cx} {ds : List Deferred} {env : Env} {h : Hp} {L L' : List Hp} {Q : Exit → Act → World → Prop} {ops : Array Oper} {rest : List (Oper × Kd)} {k : Kd} {K : Act → World → Prop}
variable {d : Nat} {op : Op} {ty : TypeId} {pos : String} {after : Array Edge} {v : Value}
theorem J.cvE {x : Operand} {q q' : IntKind} {n m : Int} {t t' : TypeId} [IsIn C.P t q] [IsIn C.P t' q'] (ex : evE env x = some (.int q n)) (hw : q'.wrap n = m) (hlt : Nat.blt d C.nt = true) (j : J C (WC C.r C.P ops Q rest) ds ((d, .int q' m) :: env) h L) :
    J C (WC C.r C.P ops Q ((⟨some d, .convert t t' x, ty, pos, after, none⟩, k) :: rest)) ds env h L := by
  subst hw
  exact J.cvI ex hlt j
theorem J.shr1 {x y : Operand} {q q' : IntKind} {n : Nat} {t t' : TypeId} (ex : evE env x = some (.int q (n : Int))) (ey : evE env y = some (.int q' 1)) (hq : Nat.blt 1 q.bits = true) (hlt : Nat.blt d C.nt = true)
    (j : J C (WC C.r C.P ops Q rest) ds ((d, .int q ((n / 2 : Nat) : Int)) :: env) h L) :
    J C (WC C.r C.P ops Q ((⟨some d, .binOp .shr t x y t', ty, pos, after, none⟩, k) :: rest)) ds env h L :=
  J.pure0 hlt rfl (fun a k w => by
    have hb : 1 < q.bits := Nat.blt_eq ▸ hq
    have hm : min 1 q.bits = 1 := by omega
    have hf : (n : Int).fdiv 2 = (n : Int) / 2 := Int.fdiv_eq_ediv_of_nonneg _ (by decide)
    simp [execOp, k.eval ex, k.eval ey, binOp, eqGuard, Op.shift, hm, hf]) j
end
section
variable {P : Program} {fn : Func} {w0 : World} {M0 : Nat → Prop} {h0 : Hp} {nt : Nat} {R : Value → Hp → List Hp → Prop} {env : Env} {h : Hp} {L ms' : List Hp} {vs : List Value} {ds : List Deferred} {V : Value} {Φ : Value → Hp → Prop}
/-- all is as it was, in what was handed over -/
theorem J.retR (hv : resV env fn.results.toList = some vs) (he : resOne vs = V) (hs : ms'.Sublist L) : J ⟨P, none, nt, w0, M0, h0⟩ ((endP P fn w0 M0 h0 fun v h' m => v = V ∧ h' = h0 ∧ m = ms') .ret) [] env h L :=
  J.st (fun w s => s.shrink) (J.retTmp hv hs ⟨he, rfl, rfl⟩)
theorem J.shr0 {Ψ : Value → Prop} {m : List Hp} (j : J ⟨P, none, nt, w0, M0, h0⟩ ((endP P fn w0 M0 h0 fun v h' ms => Ψ v ∧ h' = h0 ∧ ms = m) .ret) ds env h0 L) : J ⟨P, none, nt, w0, M0, h0⟩ ((endP P fn w0 M0 h0 fun v h' ms => Ψ v ∧ h' = h0 ∧ ms = m) .ret) ds env h L :=
  J.st (fun w s => s.shrink) j
/-- Two results: a struct in a box, and one in a slot. -/
theorem J.retAT {a t n b u : Nat} {cs : List Value} {T : TypeId} {fr : Nat × Nat} {uv : Value} [Aggr P t n] [q : At h L b (.cells ⟨cs⟩ T fr)] (hr : fn.results = #[.cell a t, .tmp u]) (ea : gt env a = some (.pointer (some ⟨b, 0, none⟩))) (eu : gt env u = some uv) (hl : cs.length = n) (hs : ms'.Sublist L) (hR : R (.tuple ⟨[.agg ⟨cs⟩, uv]⟩) h ms') :
    J ⟨P, none, nt, w0, M0, h0⟩ ((endP P fn w0 M0 h0 R) .ret) [] env h L := by
  rintro ac w ⟨_, hd, k, s⟩
  show LeavesInM (Fw none) 0 P fn ac.tmps _ ac.defers .returning w
  rw [hd]
  refine ⟨.tuple ⟨[.agg ⟨cs⟩, uv]⟩, ?_, _, h, ms', rfl, s.sub hs, hR⟩
  have hb := q.blk s
  have hx := k a _ ea
  have hy := k u _ eu
  unfold results
  rw [hr]
  simp only [Array.mapM_eq_mapM_toList, List.mapM_cons, List.mapM_nil, hx, hy, asAddr, pure_bind, Sem.run_bind, Sem.run_map]
  rw [run_loadAgg (n := n) hb hl (fun j _ => by rw [Nat.zero_add])]
  simp
end
/-- elements moved up by one: copy(s[k+1:], s[k:]) -/
theorem run_copyUp {P : Program} {t t2 e sz : Nat} [IsSl P t e] [SzOf P e sz] {b n c k : Nat} {T : TypeId} {all : List Value} {w : World} (hb : w.heap[b]? = some (.cells ⟨all⟩ T (0, 0))) (hk : k < n) (hnc : n ≤ c) (hl : all.length = c * sz) (hv : ∀ u, u ∈ (all.drop (k * sz)).take ((n - k - 1) * sz) → oneV u = true) (ty : TypeId) :
    (Builtin.copy_ #[t, t2] ty #[.slice (if c = k + 1 then some ⟨b, 0, none⟩ else some ⟨b, (k + 1) * sz, none⟩) (n - (k + 1)) (c - (k + 1)), .slice (some ⟨b, k * sz, none⟩) (n - k) (c - k)]).run P w =
      .ok (.int .i64 ((n - k - 1 : Nat) : Int)) { w with heap := w.heap.setIfInBounds b (.cells ⟨layL all ((k + 1) * sz) ((all.drop (k * sz)).take ((n - k - 1) * sz))⟩ T (0, 0)) } := by
  have hmin : Nat.min (n - k) (n - (k + 1)) = n - k - 1 := by
    show min (n - k) (n - (k + 1)) = _
    omega
  have b1 : n * sz ≤ c * sz := Nat.mul_le_mul_right _ hnc
  have b2 : (k + 1 + (n - k - 1)) * sz = n * sz := by congr 1; omega
  rw [Nat.add_mul, Nat.succ_mul] at b2
  generalize hq : (n - k - 1) * sz = q at *
  generalize hp : k * sz = p at *
  have hys : ((all.drop p).take q).length = q := by rw [List.length_take, List.length_drop]; omega
  have hfirst : ∀ l c', (Builtin.firstCells sz (n - k - 1) (.slice (some ⟨b, p, none⟩) l c')).run P w = .ok ⟨(all.drop p).take q⟩ w := fun l c' => by
    simp only [Builtin.firstCells, loadCells, hq]
    have := run_loadCellsFrom (P := P) hb ((all.drop p).take q) p 0 #[] (by intro j hj; rw [hys] at hj; rw [Nat.add_zero, List.getElem?_take, if_pos hj, List.getElem?_drop])
    rw [hys] at this
    rw [this]; simp
  have hsp : (k + 1) * sz = p + sz := by rw [Nat.succ_mul, hp]
  unfold Builtin.copy_
  simp only [List.getElem?_toArray, List.getElem?_cons_zero, List.getElem?_cons_succ, Sem.run_bind, run_underlying' (IsSl.eq (P := P) (t := t) (e := e)), Result.andThen_ok, Builtin.lenOf, Sem.run_pure, run_sizeOf (SzOf.size (P := P) (t := e) (n := sz)), hmin, hfirst, goInt]
  by_cases hc : c = k + 1
  · have hn : n = k + 1 := by omega
    have hq0 : q = 0 := by rw [← hq, hn]; simp
    subst hq0
    rw [if_pos hc]
    have := run_storeCells (P := P) [] w all 0 0 hb (by simp) (by simp)
    simp only [List.take_zero, layL] at this ⊢
    simp [this]
  · rw [if_neg hc, hsp]
    have := run_storeCells (P := P) ((all.drop p).take q) w all (p + sz) 0 hb (by rw [hys]; omega) hv
    simp only [List.toList_toArray] at this ⊢
    simp [this]
theorem chunk_up {cs : List Value} {sz n k i : Nat} (hc : cs.length = n * sz) (hk : k < n) (hi : i < n) :
    ((layL cs ((k + 1) * sz) ((cs.drop (k * sz)).take ((n - k - 1) * sz))).drop (i * sz)).take sz = if i ≤ k then (cs.drop (i * sz)).take sz else (cs.drop ((i - 1) * sz)).take sz := by
  have b2 : (k + 1 + (n - k - 1)) * sz = n * sz := by congr 1; omega
  rw [Nat.add_mul] at b2
  have b3 : (k + 1) * sz = k * sz + sz := Nat.succ_mul ..
  have b4 : (i + 1) * sz ≤ n * sz := Nat.mul_le_mul_right _ hi
  rw [Nat.succ_mul] at b4
  have hys : ((cs.drop (k * sz)).take ((n - k - 1) * sz)).length = (n - k - 1) * sz := by rw [List.length_take, List.length_drop]; omega
  apply list_ext_get
  intro j
  rw [List.getElem?_take]
  by_cases hj : j < sz
  · rw [if_pos hj, List.getElem?_drop, layL_get _ cs _ _ (by rw [hys]; omega), hys]
    by_cases e : i ≤ k
    · have : i * sz ≤ k * sz := Nat.mul_le_mul_right _ e
      rw [if_neg (by omega), if_pos e, List.getElem?_take, if_pos hj, List.getElem?_drop]
    · have h1 : (k + 1) * sz ≤ i * sz := Nat.mul_le_mul_right _ (by omega)
      have h2 : (i - 1) * sz + sz = i * sz := by rw [← Nat.succ_mul]; congr 1; omega
      rw [if_pos (by omega), if_neg e, List.getElem?_take, if_pos (by omega), List.getElem?_drop, List.getElem?_take, if_pos hj, List.getElem?_drop]
      congr 1; omega
  · rw [if_neg hj]
    symm
    split <;> rw [List.getElem?_take, if_neg hj]

/-- the list with elements moved up by one from place k on -/
def upL {α : Type} (xs : List α) (k : Nat) : List α := xs.take (k + 1) ++ (xs.drop k).take (xs.length - k - 1)
theorem upL_len {α : Type} {xs : List α} {k : Nat} (hk : k < xs.length) : (upL xs k).length = xs.length := by
  simp only [upL, List.length_append, List.length_take, List.length_drop]; omega
theorem upL_get {α : Type} {xs : List α} {k i : Nat} (hk : k < xs.length) (hi : i < (upL xs k).length) : (upL xs k)[i] = if i ≤ k then xs[i]'(by rw [upL_len hk] at hi; exact hi) else xs[i - 1]'(by rw [upL_len hk] at hi; omega) := by
  have hi' : i < xs.length := by rw [upL_len hk] at hi; exact hi
  have key : (upL xs k)[i]? = some (if i ≤ k then xs[i] else xs[i - 1]) := by
    unfold upL
    by_cases e : i ≤ k
    · rw [List.getElem?_append_left (by rw [List.length_take]; omega), List.getElem?_take, if_pos (by omega), List.getElem?_eq_getElem hi', if_pos e]
    · rw [List.getElem?_append_right (by rw [List.length_take]; omega), List.length_take, Nat.min_eq_left (by omega), List.getElem?_take, if_pos (by omega), List.getElem?_drop, List.getElem?_eq_getElem (by omega), if_neg e]
      congr 2; omega
  rw [List.getElem?_eq_getElem hi] at key
  exact Option.some.inj key

section
variable {C : Cx} {ds : List Deferred} {env : Env} {h : Hp} {L L' : List Hp} {Q : Exit → Act → World → Prop} {ops : Array Oper} {rest : List (Oper × Kd)} {k : Kd} {K : Act → World → Prop}
variable {d : Nat} {op : Op} {ty : TypeId} {pos : String} {after : Array Edge} {v : Value}
/-- the value of a piece s[i:] -/
def tailV (v : Value) (sz i : Nat) : Value := match v with
  | .slice A n c => .slice (if c = i then A else A.map (·.add (i * sz))) (n - i) (c - i)
  | _ => undef
theorem J.slTail {t e sz n c i : Nat} {A : Option Addr} {x y : Operand} {q1 : IntKind} {n1 : Int} [IsSl C.P t e] [SzOf C.P e sz] (ex : evE env x = some (.slice A n c))
    (e1 : evE env y = some (.int q1 n1)) (h1 : n1 = (i : Int)) (hi : i ≤ n) (hlt : Nat.blt d C.nt = true)
    (j : J C (WC C.r C.P ops Q rest) ds ((d, tailV (.slice A n c) sz i) :: env) h L) :
    J C (WC C.r C.P ops Q ((⟨some d, .slice t x (some y) none none, ty, pos, after, none⟩, k) :: rest)) ds env h L := by
  refine J.pure0 hlt rfl (fun a k w => ?_) j
  subst h1
  have sb : ∀ (q : IntKind) (m y : Nat) (code : BoundsCode) (w : World), m ≤ y → (Instr.sliceBound (.int q (m : Int)) y code).run C.P w = .ok m w := fun q m y code w hm => by
    have hb : (0 : Int) ≤ (m : Int) ∧ (m : Int) ≤ (y : Int) := by omega
    simp [Instr.sliceBound, asIntOf, hm]
  have hund : ∀ w, (underlying t).run C.P w = .ok (.slice e) w := fun w => run_underlying' (IsSl.eq (P := C.P) (t := t))
  have hsz : ∀ w, (sizeOf e).run C.P w = .ok sz w := fun w => run_sizeOf (SzOf.size (P := C.P) (t := e) (n := sz))
  simp [execOp, k.eval ex, k.eval e1, Instr.sliceAt, hund, Instr.slice, Instr.sliceBounds, hsz, sb q1 i n _ _ hi, tailV]
/-- copy(s[k+1:], s[k:]), s a slice of one's own -/
theorem J.copyUp {α : Type} {t e sz i : Nat} {R : Rp α} {xs : List α} {m : Hp} {x y : Operand} {f : Hp → List Hp} {tys : Array TypeId} {t2 : Nat} [IsSl C.P t e] [SzOf C.P e sz] [hi : HpIn L m f] (ht : tys = #[t, t2]) (s : SlT m h v sz e R xs) (hil : i < xs.length)
    (ex : evE env x = some (tailV v sz (i + 1))) (ey : evE env y = some (tailV v sz i)) (hk : okMut k = true) (hlt : Nat.blt d C.nt = true)
    (j : ∀ m', SlT m' h v sz e R (upL xs i) → J C (WC C.r C.P ops Q rest) ds ((d, .int .i64 ((xs.length - i - 1 : Nat) : Int)) :: env) h (f m')) :
    J C (WC C.r C.P ops Q ((⟨some d, .call { callee := .builtin .copy, args := #[x, y], argTypes := tys }, ty, pos, after, none⟩, k) :: rest)) ds env h L := by
  subst ht
  obtain ⟨cs, ⟨hcl, hmx, s1⟩, s2⟩ := s
  rcases s1 with ⟨rfl, rfl, h0, rfl⟩ | ⟨b, cap, all, rfl, rfl, h1, h2, h3⟩
  · rw [h0] at hil; omega
  have b1 : xs.length * sz ≤ cap * sz := Nat.mul_le_mul_right _ h2
  have b2 : (i + 1 + (xs.length - i - 1)) * sz = xs.length * sz := by congr 1; omega
  rw [Nat.add_mul, Nat.succ_mul] at b2
  have hsame : (all.drop (i * sz)).take ((xs.length - i - 1) * sz) = (cs.drop (i * sz)).take ((xs.length - i - 1) * sz) := by
    apply list_ext_get
    intro p
    rw [List.getElem?_take, List.getElem?_take]
    by_cases hp : p < (xs.length - i - 1) * sz
    · rw [if_pos hp, if_pos hp, List.getElem?_drop, List.getElem?_drop, h3 _ (by omega)]
    · rw [if_neg hp, if_neg hp]
  have hone : ∀ u, u ∈ cs → oneV u = true := by
    intro u hu
    obtain ⟨p, hp, rfl⟩ := List.getElem_of_mem hu
    have hsz : 0 < sz := Nat.pos_of_ne_zero fun e => by subst e; rw [Nat.mul_zero] at hcl; omega
    have hpz : p / sz < xs.length := by rw [Nat.div_lt_iff_lt_mul hsz]; omega
    have := (s2 (p / sz) hpz).1
    rw [List.all_eq_true] at this
    apply this
    have hdm := Nat.div_add_mod p sz
    have hm := Nat.mod_lt p hsz
    rw [List.mem_iff_getElem?]
    refine ⟨p % sz, ?_⟩
    rw [List.getElem?_take, if_pos hm, List.getElem?_drop, List.getElem?_eq_getElem hp |>.symm]
    congr 1
    rw [Nat.mul_comm]; omega
  have hv : ∀ u, u ∈ (all.drop (i * sz)).take ((xs.length - i - 1) * sz) → oneV u = true := fun u hu => by
    rw [hsame] at hu
    exact hone u (List.mem_of_mem_drop (List.mem_of_mem_take hu))
  have hlen : ((cs.drop (i * sz)).take ((xs.length - i - 1) * sz)).length = (xs.length - i - 1) * sz := by rw [List.length_take, List.length_drop]; omega
  refine J.op0 (α := Hp) (vf := fun _ => .int .i64 ((xs.length - i - 1 : Nat) : Int)) (hf := fun _ => h) (Lf := fun m' => f m') (Φ := fun m' => SlT m' h (.slice (some ⟨b, 0, none⟩) xs.length cap) sz e R (upL xs i)) hk hlt rfl (fun a k w st => ?_) (fun m' hm' => j m' hm')
  obtain ⟨R', st1, back⟩ := hi.st st
  have hb : w.heap[b]? = some (.cells ⟨all⟩ e (0, 0)) := st1.lin _ (List.mem_cons_self ..) _ _ (one_same _ _)
  have hrun := run_copyUp (P := C.P) (t := t) (t2 := t2) (e := e) (sz := sz) hb hil h2 h1 hv ty
  refine ⟨one b (.cells ⟨layL all ((i + 1) * sz) ((all.drop (i * sz)).take ((xs.length - i - 1) * sz))⟩ e (0, 0)), _, ?_, ?_, back _ _ st1.put⟩
  · refine ⟨layL cs ((i + 1) * sz) ((cs.drop (i * sz)).take ((xs.length - i - 1) * sz)), ⟨by rw [layL_length, hcl, upL_len hil], by rw [upL_len hil]; exact hmx, .inr ⟨b, cap, _, by rw [upL_len hil], rfl, by rw [layL_length, h1], by rw [upL_len hil]; exact h2, fun q hq => ?_⟩⟩, fun q hq => ?_⟩
    · rw [layL_length] at hq
      rw [hsame, layL_get _ all _ _ (by rw [hlen, Nat.succ_mul]; omega), layL_get _ cs _ _ (by rw [hlen, Nat.succ_mul]; omega)]
      split
      · rfl
      · exact h3 q hq
    · have hq' : q < xs.length := by rw [upL_len hil] at hq; exact hq
      rw [chunk_up hcl hil hq', upL_get hil hq]
      by_cases e : q ≤ i
      · rw [if_pos e]; simp only [e, if_true]; exact s2 q hq'
      · rw [if_neg e]; simp only [e, if_false]; exact s2 (q - 1) (by omega)
  · have ha1 : tailV (.slice (some ⟨b, 0, none⟩) xs.length cap) sz (i + 1) = .slice (if cap = i + 1 then some ⟨b, 0, none⟩ else some ⟨b, (i + 1) * sz, none⟩) (xs.length - (i + 1)) (cap - (i + 1)) := by
      by_cases hc : cap = i + 1 <;> simp [tailV, hc, Addr.add_none]
    have ha2 : tailV (.slice (some ⟨b, 0, none⟩) xs.length cap) sz i = .slice (some ⟨b, i * sz, none⟩) (xs.length - i) (cap - i) := by
      have : ¬ cap = i := by omega
      simp [tailV, this, Addr.add_none]
    rw [ha1] at ex
    rw [ha2] at ey
    simp only [execOp, resolve, invoke, builtin, List.map_toArray, List.map_cons, List.map_nil, k.eval ex, k.eval ey]
    simp [hrun]
end
end Go.Sod
