/-
  Slices of one's own, read and written by place; a piece with its room cut; yield where all is handed over. Conditions: none.
-/
import Derived.Test.YtemcklmfpapmpaaGreatCore14
namespace Go.Sod
set_option linter.unusedVariables false
set_option linter.unusedSimpArgs false

theorem SlT.form {α : Type} {m h : Hp} {v : Value} {sz : Nat} {e : TypeId} {R : Rp α} {xs : List α} (s : SlT m h v sz e R xs) : ∃ A c, v = .slice A xs.length c := by
  obtain ⟨cs, s1, _⟩ := s
  exact s1.form
theorem list_ext_get {l l' : List Value} (h : ∀ i : Nat, l[i]? = l'[i]?) : l = l' := List.ext_getElem? h
theorem layL_app {cs l : List Value} {off : Nat} (hl : off + l.length ≤ cs.length) : layL cs off l = cs.take off ++ l ++ cs.drop (off + l.length) := by
  apply list_ext_get
  intro i
  rw [layL_get l cs off i hl]
  by_cases h1 : i < off
  · rw [if_neg (by omega), List.append_assoc, List.getElem?_append_left (by rw [List.length_take]; omega), List.getElem?_take, if_pos h1]
  · by_cases h2 : i < off + l.length
    · rw [if_pos (by omega), List.append_assoc, List.getElem?_append_right (by rw [List.length_take]; omega), List.length_take, Nat.min_eq_left (by omega), List.getElem?_append_left (by omega)]
    · rw [if_neg (by omega), List.getElem?_append_right (by rw [List.length_append, List.length_take]; omega), List.getElem?_drop, List.length_append, List.length_take, Nat.min_eq_left (by omega)]
      congr 1; omega
theorem chunk_lay {cs l : List Value} {sz i k n : Nat} (hc : cs.length = n * sz) (hl : l.length = sz) (hi : i < n) (hk : k < n) : ((layL cs (i * sz) l).drop (k * sz)).take sz = if k = i then l else (cs.drop (k * sz)).take sz := by
  have b1 : (i + 1) * sz ≤ n * sz := Nat.mul_le_mul_right _ hi
  have b2 : (k + 1) * sz ≤ n * sz := Nat.mul_le_mul_right _ hk
  rw [Nat.succ_mul] at b1 b2
  apply list_ext_get
  intro j
  rw [List.getElem?_take]
  by_cases hj : j < sz
  · rw [if_pos hj, List.getElem?_drop, layL_get l cs (i * sz) _ (by omega)]
    by_cases e : k = i
    · subst e
      rw [if_pos (by omega), if_pos rfl]; congr 1; omega
    · rw [if_neg e, List.getElem?_take, if_pos hj, List.getElem?_drop, if_neg]
      rintro ⟨h1, h2⟩
      rcases Nat.lt_or_gt_of_ne e with h | h
      · have : (k + 1) * sz ≤ i * sz := Nat.mul_le_mul_right _ h
        rw [Nat.succ_mul] at this; omega
      · have : (i + 1) * sz ≤ k * sz := Nat.mul_le_mul_right _ h
        rw [Nat.succ_mul] at this; omega
  · rw [if_neg hj]
    symm
    split
    · rw [List.getElem?_eq_none (by omega)]
    · rw [List.getElem?_take, if_neg hj]

section
variable {C : Cx} {ds : List Deferred} {env : Env} {h : Hp} {L L' : List Hp} {Q : Exit → Act → World → Prop} {ops : Array Oper} {rest : List (Oper × Kd)} {k : Kd}
variable {d : Nat} {op : Op} {ty : TypeId} {pos : String} {after : Array Edge} {v : Value}

theorem J.lenT {α : Type} {t e e' sz : Nat} {R : Rp α} {xs : List α} {m : Hp} {x : Operand} {tys : Array TypeId} [IsSl C.P t e] (s : SlT m h v sz e' R xs) (ht : tys = #[t]) (ex : evE env x = some v) (hlt : Nat.blt d C.nt = true)
    (j : J C (WC C.r C.P ops Q rest) ds ((d, .int .i64 (xs.length : Int)) :: env) h L) :
    J C (WC C.r C.P ops Q ((⟨some d, .call { callee := .builtin .len, args := #[x], argTypes := tys }, ty, pos, after, none⟩, k) :: rest)) ds env h L := by
  obtain ⟨A, c, rfl⟩ := s.form
  exact J.lenL ht ex hlt j
/-- Indexing a slice of one's own. -/
theorem J.ixT {α : Type} {t e e' sz : Nat} {R : Rp α} {xs : List α} {m : Hp} {x y : Operand} {q : IntKind} {n : Int} {i : Nat} [IsSl C.P t e] [SzOf C.P e sz] (s : SlT m h v sz e' R xs) (ex : evE env x = some v) (ey : evE env y = some (.int q n)) (hn : n = (i : Int)) (hi : i < xs.length) (hlt : Nat.blt d C.nt = true)
    (j : J C (WC C.r C.P ops Q rest) ds ((d, pAt v (i * sz)) :: env) h L) :
    J C (WC C.r C.P ops Q ((⟨some d, .indexAddr t x y, ty, pos, after, none⟩, k) :: rest)) ds env h L :=
  J.pure0 hlt rfl (fun a k w => by
    obtain ⟨cs, ⟨hl, hmx, s1⟩, _⟩ := s
    rcases s1 with ⟨rfl, rfl, h0, rfl⟩ | ⟨b, cap, all, rfl, rfl, h1, h2, h3⟩
    · rw [h0] at hi; omega
    · subst hn
      have hb : (0 : Int) ≤ (i : Int) ∧ (i : Int) < (xs.length : Int) := by omega
      simp [execOp, k.eval ex, k.eval ey, Instr.indexAt, asIntOf, run_underlying' (IsSl.eq (P := C.P) (t := t)), hb, run_sizeOf (SzOf.size (P := C.P) (t := e) (n := sz)), Addr.add_none, pAt, hi]) j
/-- An element of a slice of one's own is written: a struct. -/
theorem J.stE {α : Type} {t sz i : Nat} {e : TypeId} {R : Rp α} {xs : List α} {z : α} {m : Hp} {x y : Operand} {l : List Value} {f : Hp → List Hp} [SzOf C.P t sz] [hi : HpIn L m f] (s : SlT m h v sz e R xs) (hil : i < xs.length) (ex : evE env x = some (pAt v (i * sz))) (ey : evE env y = some (.agg ⟨l⟩))
    (hl : l.length = sz) (hv : l.all oneV = true) (hz : R h z l) (hk : okMut k = true)
    (j : ∀ m', SlT m' h v sz e R (xs.set i z) → J C (WC C.r C.P ops Q rest) ds env h (f m')) : J C (WC C.r C.P ops Q ((⟨none, .store t x y, ty, pos, after, none⟩, k) :: rest)) ds env h L := by
  obtain ⟨cs, ⟨hcl, hmx, s1⟩, s2⟩ := s
  rcases s1 with ⟨rfl, rfl, h0, rfl⟩ | ⟨b, cap, all, rfl, rfl, h1, h2, h3⟩
  · rw [h0] at hil; omega
  have b1 : (i + 1) * sz ≤ xs.length * sz := Nat.mul_le_mul_right _ hil
  have b2 : xs.length * sz ≤ cap * sz := Nat.mul_le_mul_right _ h2
  rw [Nat.succ_mul] at b1
  refine J.put0 (L' := f (one b (.cells ⟨layL all (i * sz) l⟩ e (0, 0)))) hk rfl (fun a k w st => ?_) (j _ ⟨layL cs (i * sz) l, ⟨by rw [layL_length, hcl, List.length_set], by rw [List.length_set]; exact hmx, .inr ⟨b, cap, layL all (i * sz) l, by rw [List.length_set], rfl, by rw [layL_length, h1], by rw [List.length_set]; exact h2, fun q hq => ?_⟩⟩, fun q hq => ?_⟩)
  · obtain ⟨R', s1, back⟩ := hi.st st
    have hb : w.heap[b]? = some (.cells ⟨all⟩ e (0, 0)) := s1.lin _ (List.mem_cons_self ..) _ _ (one_same _ _)
    refine ⟨_, ?_, back _ _ s1.put⟩
    have hp : pAt (.slice (some ⟨b, 0, none⟩) xs.length cap) (i * sz) = .pointer (some ⟨b, i * sz, none⟩) := by simp [pAt]
    rw [hp] at ex
    simp only [execOp, k.eval ex, k.eval ey, Instr.storeAt, Instr.sureAddr, pure_bind]
    rw [Sem.run_bind, run_storeVar (n := sz) hb (by simpa [Value.cells] using hl) (by omega) (by simpa [Value.cells] using hv)]
    simp [Value.cells]
  · rw [layL_length] at hq
    rw [layL_get l all (i * sz) q (by omega), layL_get l cs (i * sz) q (by omega)]
    split
    · rfl
    · exact h3 q hq
  · rw [List.length_set] at hq
    rw [chunk_lay hcl hl hil hq]
    by_cases e : q = i
    · subst e
      rw [if_pos rfl]
      simp only [List.getElem_set_self]
      exact ⟨hv, hz⟩
    · rw [if_neg e, List.getElem_set_ne (Ne.symm e)]
      exact s2 q hq

/-- the value of a piece s[i:j:m] -/
def cutV (v : Value) (sz i j m : Nat) : Value := match v with
  | .slice A n c => .slice (if m = i then A else A.map (·.add (i * sz))) (j - i) (m - i)
  | _ => undef
theorem SlR.cut {α : Type} {sz : Nat} {R : Rp α} {xs : List α} {i j : Nat} (s : SlR h sz R v xs) (hij : i ≤ j) (hj : j ≤ xs.length) : SlR h sz R (cutV v sz i j j) ((xs.take j).drop i) := by
  obtain ⟨A, c, rfl, h2, h3, h4⟩ := s
  refine ⟨(if j = i then A else A.map (·.add (i * sz))), j - i, ?_, ?_, ?_, ?_⟩
  · simp [cutV, Nat.min_eq_left hj]
  · simp; omega
  · simp; omega
  · intro m hm
    have hm' : i + m < j := by simp at hm; omega
    obtain ⟨vs, a1, a2, a3, b, off, all, T, fr, rfl, hb, hall⟩ := h4 (i + m) (by omega)
    refine ⟨vs, a1, a2, ?_, ?_⟩
    · simpa using a3
    · have hci : ¬ j = i := by omega
      rw [if_neg hci]
      refine ⟨b, off + i * sz, all, T, fr, by simp [Addr.add_none], hb, fun q hq => ?_⟩
      rw [← hall q hq]; congr 1
      rw [Nat.add_mul]; omega
/-- A piece with its room cut: s[i:j:j]. -/
theorem J.sl3 {t e sz n c : Nat} {A : Option Addr} {x y z u : Operand} {q1 q2 q3 : IntKind} {n1 n2 n3 : Int} {i j' : Nat} [IsSl C.P t e] [SzOf C.P e sz] (ex : evE env x = some (.slice A n c))
    (e1 : evE env y = some (.int q1 n1)) (e2 : evE env z = some (.int q2 n2)) (e3 : evE env u = some (.int q3 n3)) (h1 : n1 = (i : Int)) (h2 : n2 = (j' : Int)) (h3 : n3 = (j' : Int)) (hij : i ≤ j') (hj : j' ≤ c) (hlt : Nat.blt d C.nt = true)
    (j : J C (WC C.r C.P ops Q rest) ds ((d, cutV (.slice A n c) sz i j' j') :: env) h L) :
    J C (WC C.r C.P ops Q ((⟨some d, .slice t x (some y) (some z) (some u), ty, pos, after, none⟩, k) :: rest)) ds env h L := by
  refine J.pure0 hlt rfl (fun a k w => ?_) j
  subst h1; subst h2; subst h3
  have sb : ∀ (q : IntKind) (m y : Nat) (code : BoundsCode) (w : World), m ≤ y → (Instr.sliceBound (.int q (m : Int)) y code).run C.P w = .ok m w := fun q m y code w hm => by
    have hb : (0 : Int) ≤ (m : Int) ∧ (m : Int) ≤ (y : Int) := by omega
    simp [Instr.sliceBound, asIntOf, hm]
  have hund : ∀ w, (underlying t).run C.P w = .ok (.slice e) w := fun w => run_underlying' (IsSl.eq (P := C.P) (t := t))
  have hsz : ∀ w, (sizeOf e).run C.P w = .ok sz w := fun w => run_sizeOf (SzOf.size (P := C.P) (t := e) (n := sz))
  simp [execOp, k.eval ex, k.eval e1, k.eval e2, k.eval e3, Instr.sliceAt, hund, Instr.slice, Instr.sliceBounds, hsz, sb q3 j' c _ _ hj, sb q2 j' j' _ _ (Nat.le_refl _), sb q1 i j' _ _ hij, cutV]

theorem J.yield0 {fo : Operand} {args : Array Operand} {tys : Array TypeId} {l : Nat} {vs : List Value} {R : Bool → Hp → List Hp → Prop} (ef : evE env fo = some (.func (.yield l) #[] #[])) (ea : evL env args.toList = some vs)
    (hS : YS C.P l vs h L R) (hk : okMut k = true) (hlt : Nat.blt d C.nt = true)
    (j : ∀ b h' ms', h.le h' → R b h' ms' → J C (WC C.r C.P ops Q rest) ds ((d, .bool b) :: env) h' ms') :
    J C (WC C.r C.P ops Q ((⟨some d, .call { callee := .value fo, args := args, argTypes := tys }, ty, pos, after, none⟩, k) :: rest)) ds env h L := by
  have := J.yield (L1 := []) (ty := ty) (pos := pos) (after := after) (rest := rest) (k := k) (ops := ops) (Q := Q) (ds := ds) (tys := tys) ef ea hS hk hlt (fun b h' ms' hl hR => by rw [List.append_nil]; exact j b h' ms' hl hR)
  rw [List.append_nil] at this
  exact this
end
end Go.Sod
