/-
  More rules: comparisons with nil, of bools; pieces of slices. Conditions: none.
-/
import Derived.Test.YtemcklmfpapmpaaGreatCore11
namespace Go.Sod
set_option linter.unusedVariables false
set_option linter.unusedSimpArgs false
section
variable {C : Cx} {ds : List Deferred} {env : Env} {h : Hp} {L L' : List Hp} {Q : Exit → Act → World → Prop} {ops : Array Oper} {rest : List (Oper × Kd)} {k : Kd}
variable {d : Nat} {op : Op} {ty : TypeId} {pos : String} {after : Array Edge} {v : Value}

theorem run_equalIn_succ {P : Program} {w : World} {t : TypeId} {x y : Value} {b : Bool} (hh : ∀ m, (Op.equalIn (m + 1) t x y).run P w = .ok b w) : (Op.equal t x y).run P w = .ok b w := hh 9999

theorem J.eqB {o : BinOp} {x y : Operand} {m n b : Bool} {t t' : TypeId} [q : IsBo C.P t] (ex : evE env x = some (.bool m)) (ey : evE env y = some (.bool n)) (ho : o = .eql ∧ b = (m == n) ∨ o = .neq ∧ b = !(m == n)) (hlt : Nat.blt d C.nt = true)
    (j : J C (WC C.r C.P ops Q rest) ds ((d, .bool b) :: env) h L) :
    J C (WC C.r C.P ops Q ((⟨some d, .binOp o t x y t', ty, pos, after, none⟩, k) :: rest)) ds env h L :=
  J.pure0 hlt rfl (fun a k w => by
    have he : ∀ w, (Op.equal t (.bool m) (.bool n)).run C.P w = .ok (m == n) w := fun w => run_equalIn_succ fun f => by
      simp [Op.equalIn, run_underlying' q.eq]
    rcases ho with ⟨rfl, rfl⟩ | ⟨rfl, rfl⟩ <;> simp [execOp, k.eval ex, k.eval ey, binOp, eqGuard, he]) j
theorem J.eqNil {o : BinOp} {x y : Operand} {A : Option Addr} {n c n' c' : Nat} {b : Bool} {t t' e : TypeId} [q : IsSl C.P t e] (ex : evE env x = some (.slice A n c)) (ey : evE env y = some (.slice none n' c')) (ho : o = .eql ∧ b = A.isNone ∨ o = .neq ∧ b = !A.isNone) (hlt : Nat.blt d C.nt = true)
    (j : J C (WC C.r C.P ops Q rest) ds ((d, .bool b) :: env) h L) :
    J C (WC C.r C.P ops Q ((⟨some d, .binOp o t x y t', ty, pos, after, none⟩, k) :: rest)) ds env h L :=
  J.pure0 hlt rfl (fun a k w => by
    have he : ∀ w, (Op.equal t (.slice A n c) (.slice none n' c')).run C.P w = .ok A.isNone w := fun w => run_equalIn_succ fun f => by
      cases A <;> simp [Op.equalIn, run_underlying' q.eq]
    rcases ho with ⟨rfl, rfl⟩ | ⟨rfl, rfl⟩ <;> simp [execOp, k.eval ex, k.eval ey, binOp, eqGuard, he]) j

/-- An operation behind a guard that was itself passed over. -/
theorem J.guardU {o : Op} {g : Nat} {want : Bool} {og : Oper} {dg : Nat} (ho : ops[g]? = some og) (hd : og.dst = some dg) (hg : gt env dg = some undef) (hlt : Nat.blt d C.nt = true) (hltg : Nat.blt dg C.nt = true)
    (j : J C (WC C.r C.P ops Q rest) ds ((d, undef) :: env) h L) : J C (WC C.r C.P ops Q ((⟨some d, o, ty, pos, after, some (g, want)⟩, k) :: rest)) ds env h L := by
  intro a w s
  have h1 := s.2.2.1 dg _ hg
  have hd' : dg < a.tmps.size := by
    rw [s.1]
    have : Nat.ble (dg + 1) C.nt = true := hltg
    have := Nat.le_of_ble_eq_true this
    omega
  have e : a.tmps[dg]? = some undef := by
    rw [Array.getElem?_eq_getElem hd']
    simp only [Array.getD, hd', dite_true] at h1
    exact congrArg some h1
  have hb : yielded ops a.tmps g = none := by simp [yielded, ho, hd, e, undef]
  refine stepK_no ?_ (j _ _ (s.put (v := undef) hlt s.2.2.2))
  simp only [Region.wanted, hb]
  cases want <;> rfl

/-- A piece of a slice that is read. -/
theorem J.slR {α : Type} {t e sz : Nat} {R : Rp α} {xs : List α} {x : Operand} {lo hi : Option Operand} {i j' : Nat} [IsSl C.P t e] [SzOf C.P e sz] (s : SlR h sz R v xs) (ex : evE env x = some v)
    (hlo : match lo with | none => i = 0 | some y => ∃ q n, evE env y = some (.int q n) ∧ n = (i : Int)) (hhi : match hi with | none => j' = xs.length | some y => ∃ q n, evE env y = some (.int q n) ∧ n = (j' : Int)) (hij : i ≤ j') (hj : j' ≤ xs.length) (hlt : Nat.blt d C.nt = true)
    (j : ∀ v', SlR h sz R v' ((xs.take j').drop i) → J C (WC C.r C.P ops Q rest) ds ((d, v') :: env) h L) :
    J C (WC C.r C.P ops Q ((⟨some d, .slice t x lo hi none, ty, pos, after, none⟩, k) :: rest)) ds env h L := by
  obtain ⟨A, c, rfl, h2, h3, h4⟩ := s
  obtain ⟨v', hv', hs'⟩ : ∃ v', v' = Value.slice (if c = i then A else A.map (·.add (i * sz))) (j' - i) (c - i) ∧ SlR h sz R v' ((xs.take j').drop i) := by
    refine ⟨_, rfl, (if c = i then A else A.map (·.add (i * sz))), c - i, ?_, ?_, ?_, ?_⟩
    · simp [Nat.min_eq_left hj]
    · simp; omega
    · simp; omega
    · intro m hm
      have hm' : i + m < j' := by simp at hm; omega
      obtain ⟨vs, a1, a2, a3, b, off, all, T, fr, rfl, hb, hall⟩ := h4 (i + m) (by omega)
      refine ⟨vs, a1, a2, ?_, ?_⟩
      · simpa using a3
      · have hci : ¬ c = i := by omega
        rw [if_neg hci]
        refine ⟨b, off + i * sz, all, T, fr, by simp [Addr.add_none], hb, fun q hq => ?_⟩
        rw [← hall q hq]; congr 1
        rw [Nat.add_mul]; omega
  refine J.pure0 (v := v') hlt rfl (fun a k w => ?_) (j v' hs')
  subst hv'
  have sb : ∀ (q : IntKind) (m y : Nat) (code : BoundsCode) (w : World), m ≤ y → (Instr.sliceBound (.int q (m : Int)) y code).run C.P w = .ok m w := fun q m y code w hm => by
    have hb : (0 : Int) ≤ (m : Int) ∧ (m : Int) ≤ (y : Int) := by omega
    simp [Instr.sliceBound, asIntOf, hm]
  have hund : ∀ w, (underlying t).run C.P w = .ok (.slice e) w := fun w => run_underlying' (IsSl.eq (P := C.P) (t := t))
  have hsz : ∀ w, (sizeOf e).run C.P w = .ok sz w := fun w => run_sizeOf (SzOf.size (P := C.P) (t := e) (n := sz))
  cases lo with
  | none =>
    simp only at hlo
    subst hlo
    cases hi with
    | none =>
      simp only at hhi
      subst hhi
      simp [execOp, k.eval ex, Instr.sliceAt, hund, Instr.slice, Instr.sliceBounds, hsz]
    | some y =>
      obtain ⟨q, n, e1, rfl⟩ := hhi
      simp [execOp, k.eval ex, k.eval e1, Instr.sliceAt, hund, Instr.slice, Instr.sliceBounds, hsz, sb q j' c _ _ (Nat.le_trans hj h2)]
  | some z =>
    obtain ⟨q0, n0, e0, rfl⟩ := hlo
    cases hi with
    | none =>
      simp only at hhi
      subst hhi
      simp [execOp, k.eval ex, k.eval e0, Instr.sliceAt, hund, Instr.slice, Instr.sliceBounds, hsz, sb q0 i xs.length _ _ hij]
    | some y =>
      obtain ⟨q, n, e1, rfl⟩ := hhi
      simp [execOp, k.eval ex, k.eval e1, k.eval e0, Instr.sliceAt, hund, Instr.slice, Instr.sliceBounds, hsz, sb q j' c _ _ (Nat.le_trans hj h2), sb q0 i j' _ _ hij]
end
end Go.Sod
