/-
  Texts read by place, bytes that become a text, calls that read objects and make memory. Conditions: none.
-/
import Derived.Test.YtemcklmfpapmpaaGreatCore17
import Derived.Laws.IdiomStrings
namespace Go.Sod
set_option linter.unusedVariables false
set_option linter.unusedSimpArgs false

/-- the byte at a place of a text -/
def chr (s : ByteArray) (i : Nat) : Int := (((s.data.toList[i]?).map (·.toNat)).getD 0 : Nat)
theorem chr_eq {s : ByteArray} {i : Nat} (hi : i < s.size) : (((s[i]'hi).toNat : Nat) : Int) = chr s i := by
  have : s.data.toList[i]? = some s[i] := by
    rw [List.getElem?_eq_getElem (by simpa using hi)]
    rfl
  simp [chr, this]
theorem chr_nonneg (s : ByteArray) (i : Nat) : 0 ≤ chr s i := by unfold chr; omega
theorem chr_le (s : ByteArray) (i : Nat) : chr s i < 256 := by
  unfold chr
  cases e : s.data.toList[i]? with
  | none => simp
  | some b => simp; have := b.toNat_lt; omega
theorem wrapu8_id {n : Int} (h1 : 0 ≤ n) (h2 : n ≤ 255) : IntKind.u8.wrap n = n := by
  simp only [IntKind.wrap, IntKind.bits, IntKind.signed]
  have : n % 256 = n := Int.emod_eq_of_lt h1 (by omega)
  simp_all
theorem wrapu32_id {n : Int} (h1 : 0 ≤ n) (h2 : n ≤ 4294967295) : IntKind.u32.wrap n = n := by
  simp only [IntKind.wrap, IntKind.bits, IntKind.signed]
  have : n % 4294967296 = n := Int.emod_eq_of_lt h1 (by omega)
  simp_all
def RBy : Rp UInt8 := fun _ b vs => vs = [.int .u8 b.toNat]
theorem RBy.mono : Mono RBy := fun _ _ _ _ _ e => e
def byteV (l : List UInt8) : List Value := l.map fun b => .int .u8 (b.toNat : Nat)

theorem At.up {h h' : Hp} {L : List Hp} {b : Nat} {o : Obj} (q : At h L b o) (l : h.le h') : At h' L b o := ⟨q.get.imp (fun e => l _ _ e) id⟩
theorem map_take_succ {α β : Type} {xs : List α} {f : α → β} {k : Nat} (hk : k < xs.length) : (xs.take (k + 1)).map f = (xs.take k).map f ++ [f xs[k]] := by
  rw [List.take_add_one, List.getElem?_eq_getElem hk, List.map_append]; rfl
theorem filter_take_succ {α : Type} {xs : List α} {p : α → Bool} {k : Nat} (hk : k < xs.length) : (xs.take (k + 1)).filter p = (xs.take k).filter p ++ (if p xs[k] then [xs[k]] else []) := by
  rw [List.take_add_one, List.getElem?_eq_getElem hk, List.filter_append]
  cases e : p xs[k] <;> simp [e]
theorem foldl_take_succ {α β : Type} {xs : List α} {f : β → α → β} {b : β} {k : Nat} (hk : k < xs.length) : (xs.take (k + 1)).foldl f b = f ((xs.take k).foldl f b) xs[k] := by
  rw [List.take_add_one, List.getElem?_eq_getElem hk, List.foldl_append]; rfl
/-- a contract of a function that reads objects, and makes memory that is only read from then on -/
def FG (P : Program) (f : FuncId) (vs : List Value) (h : Hp) (L : List Hp) (Φ : Value → Hp → Prop) : Prop := FS P f vs h L fun v h' ms' => Φ v h' ∧ ms' = L
theorem FG.mono {P : Program} {f : FuncId} {vs : List Value} {h : Hp} {L : List Hp} {Φ Ψ : Value → Hp → Prop} (s : FG P f vs h L Φ) (hr : ∀ v h', Φ v h' → Ψ v h') : FG P f vs h L Ψ :=
  FS.mono s fun v h' ms' ⟨q, e⟩ => ⟨hr v h' q, e⟩

section
variable {C : Cx} {ds : List Deferred} {env : Env} {h : Hp} {L L' : List Hp} {Q : Exit → Act → World → Prop} {ops : Array Oper} {rest : List (Oper × Kd)} {k : Kd} {K : Act → World → Prop}
variable {d : Nat} {op : Op} {ty : TypeId} {pos : String} {after : Array Edge} {v : Value}

theorem J.ixS {t : TypeId} {x y : Operand} {s : ByteArray} {q : IntKind} {n : Int} {i : Nat} [IsSt C.P t] (ex : evE env x = some (.string s)) (ey : evE env y = some (.int q n)) (hn : n = (i : Int)) (hi : i < s.size) (hlt : Nat.blt d C.nt = true)
    (j : J C (WC C.r C.P ops Q rest) ds ((d, .int .u8 (chr s i)) :: env) h L) :
    J C (WC C.r C.P ops Q ((⟨some d, .index t x y, ty, pos, after, none⟩, k) :: rest)) ds env h L :=
  J.pure0 hlt rfl (fun a kn w => by
    subst hn
    have hb : (0 : Int) ≤ (i : Int) ∧ (i : Int) < (s.size : Int) := by omega
    simp only [execOp, kn.eval ex, kn.eval ey]
    have := run_index_string (P := C.P) w t s q (i : Int) IsSt.eq
    rw [dif_pos hb] at this
    have h3 := chr_eq hi
    simp only [Int.toNat_natCast] at this
    rw [h3] at this
    simp [this]) j

theorem run_loadBytes {P : Program} {w : World} {b off n : Nat} {all : List Value} {T : TypeId} {fr : Nat × Nat} {ys : List Value} (hb : w.heap[b]? = some (.cells ⟨all⟩ T fr)) (hj : ∀ j, j < ys.length → all[off + j]? = ys[j]?) (hn : ys.length = n) :
    (loadCells ⟨b, off, none⟩ n).run P w = .ok ⟨ys⟩ w := by
  subst hn
  have := run_loadCellsFrom (P := P) hb ys off 0 #[] (by simpa using hj)
  unfold loadCells
  rw [this]; simp
/-- bytes become a text -/
theorem J.cvBS {t t' e : TypeId} {x : Operand} {xv : Value} {l : List UInt8} [IsSl C.P t e] [IsIn C.P e .u8] [IsSt C.P t'] (ex : evE env x = some xv) (hf : ∃ A n c, xv = .slice A n c) (hsrc : ∀ w, St C.w0 C.M0 C.h0 w h L → SrcAt w xv (byteV l) l.length) (hnl : ∀ A n c, xv = .slice A n c → n = l.length) (hk : okRead k = true) (hlt : Nat.blt d C.nt = true)
    (j : J C (WC C.r C.P ops Q rest) ds ((d, .string ⟨l.toArray⟩) :: env) h L) :
    J C (WC C.r C.P ops Q ((⟨some d, .convert t t' x, ty, pos, after, none⟩, k) :: rest)) ds env h L := by
  refine J.read0 hk hlt rfl (fun a kn w st w' hg => ?_) j
  obtain ⟨A, n, c, rfl⟩ := hf
  obtain rfl := hnl A n c rfl
  simp only [execOp, kn.eval ex]
  have hconv : ∀ A, (convert t t' (.slice A l.length c)).run C.P w' = (Conv.bytesToString (.slice A l.length c)).run C.P w' := fun A => run_convert_bytes_string w' t t' e A l.length c IsSl.eq IsIn.eq IsSt.eq
  have hfin : (convert t t' (.slice A l.length c)).run C.P w' = .ok (.string ⟨l.toArray⟩) w' := by
    rw [hconv]
    rcases hsrc w st with ⟨A', c', e1, e2⟩ | ⟨s, e1, _⟩
    · cases e1
      by_cases hl : l = []
      · subst hl
        cases A with
        | none => rfl
        | some a0 =>
          exact run_bytesToString (P := C.P) w' a0 0 c [] (by simp [loadCells, loadCellsFrom])
      · have hpos : 0 < l.length := List.length_pos_iff.2 hl
        obtain ⟨b, off, all, T, fr, rfl, hb, hj⟩ := e2 (by simpa [byteV] using hpos)
        have hl2 := run_loadBytes (P := C.P) (n := l.length) (ys := byteV l) (hg.get hb) hj (by simp [byteV])
        have hm : (⟨byteV l⟩ : Array Value) = ((l.map (fun b => (b.toNat : Int))).map (Value.int .u8)).toArray := by simp [byteV]
        rw [hm] at hl2
        have := run_bytesToString (P := C.P) w' ⟨b, off, none⟩ l.length c _ hl2
        rw [this, foldl_push_byteCells]
        have he0 : ByteArray.empty.data = #[] := rfl
        rw [he0]; simp
    · cases e1
  simp [hfin]

/-- A call that reads objects and makes memory. -/
theorem J.callG {fo : Operand} {args : Array Operand} {tys : Array TypeId} {fid : FuncId} {fs vs cap : List Value} {Φ : Value → Hp → Prop} [q : Fnc C.P fid] (ef : evE env fo = some (.func (.func fid) ⟨fs⟩ ⟨cap⟩)) (ea : evL env args.toList = some vs)
    (hS : FG C.P fid (fs ++ vs ++ cap) h L Φ) (hk : okGrow k = true) (hlt : Nat.blt d C.nt = true)
    (j : ∀ u h', h.le h' → Φ u h' → J C (WC C.r C.P ops Q rest) ds ((d, u) :: env) h' L) :
    J C (WC C.r C.P ops Q ((⟨some d, .call { callee := .value fo, args := args, argTypes := tys }, ty, pos, after, none⟩, k) :: rest)) ds env h L := J.callL ef ea hS hk hlt j
/-- An object of three parts is opened, and shut. -/
theorem J.open3 {a b c : Hp} (d0 : a.dis (b.un c)) (d1 : b.dis c) (j : J C K ds env h (a :: b :: c :: L)) : J C K ds env h (a.un (b.un c) :: L) :=
  J.open d0 (J.front 1 rfl (J.open d1 (J.perm (List.perm_middle (a := a) (l₁ := [b, c])) j)))
theorem J.shut3 {a b c : Hp} (j : a.dis (b.un c) → b.dis c → J C K ds env h (a.un (b.un c) :: L)) : J C K ds env h (a :: b :: c :: L) :=
  J.perm (List.perm_middle (a := a) (l₁ := [b, c])).symm (J.shut fun d1 => J.front 1 rfl (J.shut fun d0 => j d0 d1))
theorem FH.fg {P : Program} {f : FuncId} {vs : List Value} {h : Hp} {Φ : Value → Hp → Prop} {L : List Hp} (s : FH P f vs h Φ) : FG P f vs h L Φ := by
  intro w o
  have o0 : Ok w h [] := Ok.sub (ms := []) (L1 := L) o
  refine Calls.mono (s w o0) ?_
  rintro e w' ⟨v, h', ms', rfl, st, hΦ, rfl⟩
  exact ⟨v, h', L, rfl, by simpa using St.call0 o.st st, hΦ, rfl⟩
end
section
variable {P : Program} {fn : Func} {w0 : World} {M0 : Nat → Prop} {h0 : Hp} {nt : Nat} {R : Value → Hp → List Hp → Prop} {env : Env} {h : Hp} {L ms' : List Hp} {vs : List Value} {ds : List Deferred} {V : Value} {Φ : Value → Hp → Prop}
theorem J.retG (hv : resV env fn.results.toList = some vs) (hs : ms'.Sublist L) (hΦ : Φ (resOne vs) h) : J ⟨P, none, nt, w0, M0, h0⟩ ((endP P fn w0 M0 h0 fun v h' m => Φ v h' ∧ m = ms') .ret) [] env h L :=
  J.retTmp hv hs ⟨hΦ, rfl⟩
end
end Go.Sod
