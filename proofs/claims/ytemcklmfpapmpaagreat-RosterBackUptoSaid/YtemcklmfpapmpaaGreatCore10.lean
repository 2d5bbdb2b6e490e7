/-
  Maps with texts as keys, made and asked by a function of its own. Conditions: none.
-/
import Derived.Test.YtemcklmfpapmpaaGreatCore9
import Derived.Laws.StructEq
namespace Go.Sod
set_option linter.unusedVariables false
set_option linter.unusedSimpArgs false

theorem beqS (a b : ByteArray) : (a == b) = decide (a = b) := by rw [beq_toListBytes, strEq]
/-- the first entry of a key -/
def lookL : List MapEntry → ByteArray → Option (Nat × Value) → Nat → Option (Nat × Value)
  | [], _, d, _ => d
  | e :: es, k, d, i => match e.key with
    | .string s => if s = k then some (i, e.val) else lookL es k d (i + 1)
    | _ => d
def keysS (es : List MapEntry) : Prop := ∀ e, e ∈ es → ∃ s, e.key = .string s

theorem findNow_look (k : ByteArray) : ∀ (es : List MapEntry) (i : Nat), keysS es → Instr.findNow .string (.string k) es i = some (lookL es k none i) := by
  intro es
  induction es with
  | nil => intro i _; rfl
  | cons e es ih =>
    intro i hk
    obtain ⟨s, hs⟩ := hk e (by simp)
    by_cases h : s = k
    · subst h
      simp [Instr.findNow, lookL, Instr.sameNow, hs, beqS]
    · have h' : ¬ k = s := fun e => h e.symm
      simp [Instr.findNow, lookL, Instr.sameNow, hs, beqS, h, h', ih (i + 1) (fun e he => hk e (by simp [he]))]

/-- A map of one's own: what each key has. -/
def MpS (m : Hp) (v : Value) (f : ByteArray → Option Value) : Prop :=
  ∃ r es clock, v = .map (some r) ∧ m = one r (.map ⟨es⟩ clock) ∧ keysS es ∧ ∀ k, (lookL es k none 0).map (·.2) = f k

theorem lookL_lt {k : ByteArray} : ∀ {es : List MapEntry} {i j : Nat} {v : Value}, lookL es k none i = some (j, v) → i ≤ j ∧ j - i < es.length ∧ (es[j - i]?).map (·.key) = some (.string k) ∧ (es[j - i]?).map (·.val) = some v := by
  intro es
  induction es with
  | nil => intro i j v h; simp [lookL] at h
  | cons e es ih =>
    intro i j v h
    unfold lookL at h
    split at h
    · rename_i s hs
      split at h
      · rename_i hsk
        simp only [Option.some.injEq, Prod.mk.injEq] at h
        obtain ⟨rfl, rfl⟩ := h
        simp [hs, hsk]
      · obtain ⟨h1, h2, h3, h4⟩ := ih h
        have : j - i = (j - (i + 1)) + 1 := by omega
        rw [this]
        refine ⟨by omega, by simp; omega, by simpa using h3, by simpa using h4⟩
    · cases h

theorem lookL_push {k : ByteArray} {e0 : MapEntry} {s0 : ByteArray} (h0 : e0.key = .string s0) : ∀ {es : List MapEntry} {i : Nat}, keysS es → (lookL (es ++ [e0]) k none i).map (·.2) = match (lookL es k none i).map (·.2) with | some v => some v | none => if s0 = k then some e0.val else none := by
  intro es
  induction es with
  | nil => intro i _; by_cases h : s0 = k <;> simp [lookL, h0, h]
  | cons e es ih =>
    intro i hk
    obtain ⟨s, hs⟩ := hk e (by simp)
    by_cases h : s = k
    · simp [lookL, hs, h]
    · simp only [List.cons_append, lookL, hs, h, if_false]
      exact ih (fun e he => hk e (by simp [he]))

theorem lookL_set {k : ByteArray} {key : ByteArray} {val : Value} : ∀ {es : List MapEntry} {i j : Nat} {v : Value}, keysS es → lookL es key none i = some (j, v) → ∀ e', e'.key = .string key → e'.val = val →
    (lookL (es.set (j - i) e') k none i).map (·.2) = if key = k then some val else (lookL es k none i).map (·.2) := by
  intro es
  induction es with
  | nil => intro i j v _ h; simp [lookL] at h
  | cons e es ih =>
    intro i j v hk h e' h1 h2
    obtain ⟨s, hs⟩ := hk e (by simp)
    unfold lookL at h
    simp only [hs] at h
    by_cases hsk : s = key
    · simp only [hsk, if_true, Option.some.injEq, Prod.mk.injEq] at h
      obtain ⟨rfl, _⟩ := h
      by_cases hkk : key = k
      · simp [lookL, h1, h2, hkk]
      · simp [lookL, h1, hkk, hs, hsk]
    · simp only [hsk, if_false] at h
      obtain ⟨l1, _⟩ := lookL_lt h
      have e1 : j - i = (j - (i + 1)) + 1 := by omega
      rw [e1, List.set_cons_succ]
      by_cases hs2 : s = k
      · have hne : ¬ key = k := fun e => hsk (hs2.trans e.symm)
        simp [lookL, hs, hs2, hne]
      · simp only [lookL, hs, hs2, if_false]
        exact ih (fun e he => hk e (by simp [he])) h e' h1 h2

section
variable {P : Program} {w : World}
theorem run_checkKey {t : TypeId} [q : IsSt P t] (e : Bool) (n : Nat) (s : ByteArray) : (Instr.checkKey e (n + 1) t (.string s)).run P w = .ok () w := by
  simp [Instr.checkKey, run_underlying' q.eq]
theorem run_findKey {t : TypeId} [q : IsSt P t] {es : List MapEntry} (hk : keysS es) (s : ByteArray) : (Instr.findKey t (.string s) es).run P w = .ok (lookL es s none 0) w := by
  simp [Instr.findKey, run_underlying' q.eq, findNow_look s es 0 hk]
theorem run_getMap {r : Nat} {es : Array MapEntry} {c : Nat} (h : w.heap[r]? = some (.map es c)) : (getObj r).run P w = .ok (.map es c) w := by simp [getObj, Sem.run, h]
theorem run_setMap {r : Nat} {es : Array MapEntry} {c : Nat} (o : Obj) (h : w.heap[r]? = some (.map es c)) : (setObj r o).run P w = .ok () { w with heap := w.heap.setIfInBounds r o } := by simp [setObj, Sem.run, h]
end

section
variable {C : Cx} {ds : List Deferred} {env : Env} {h : Hp} {L L' : List Hp} {Q : Exit → Act → World → Prop} {ops : Array Oper} {rest : List (Oper × Kd)} {k : Kd}
variable {d : Nat} {op : Op} {ty : TypeId} {pos : String} {after : Array Edge} {v : Value}

theorem J.mkMap {t : TypeId} (hk : okGrow k = true) (hlt : Nat.blt d C.nt = true)
    (j : ∀ r, MpS (one r (.map #[] 0)) (.map (some r)) (fun _ => none) → J C (WC C.r C.P ops Q rest) ds ((d, .map (some r)) :: env) h (one r (.map #[] 0) :: L)) :
    J C (WC C.r C.P ops Q ((⟨some d, .makeMap t none, ty, pos, after, none⟩, k) :: rest)) ds env h L :=
  J.new0 (vf := fun r => .map (some r)) (o := .map #[] 0) hk hlt rfl (fun a k w => by simp [execOp, Instr.makeMap]) (fun r => j r ⟨r, [], 0, rfl, rfl, fun e he => by simp at he, fun k => rfl⟩)

theorem HpIn.st {L : List Hp} {m : Hp} {f : Hp → List Hp} (q : HpIn L m f) {w0 w : World} {M0 : Nat → Prop} {h0 h : Hp} (s : St w0 M0 h0 w h L) : ∃ R, St w0 M0 h0 w h (m :: R) ∧ ∀ m' w', St w0 M0 h0 w' h (m' :: R) → St w0 M0 h0 w' h (f m') := by
  obtain ⟨R, h1, h2⟩ := q.ex
  exact ⟨R, s.perm h1, fun m' w' s' => s'.perm (h2 m').symm⟩

theorem J.mapSet {t kt et : TypeId} {xm xk xv : Operand} {m : Hp} {f : ByteArray → Option Value} {F : Hp → List Hp} {key : ByteArray} {val : Value} [q : IsMp C.P t kt et] [qs : IsSt C.P kt] [hi : HpIn L m F] (ho : MpS m v f)
    (em : evE env xm = some v) (ek : evE env xk = some (.string key)) (ev : evE env xv = some val) (hk : okMut k = true)
    (j : ∀ m', MpS m' v (fun s => if key = s then some val else f s) → J C (WC C.r C.P ops Q rest) ds env h (F m')) :
    J C (WC C.r C.P ops Q ((⟨none, .mapUpdate t xm xk xv, ty, pos, after, none⟩, k) :: rest)) ds env h L := by
  obtain ⟨r, es, c, rfl, rfl, hks, hf⟩ := ho
  -- what the map is behind it
  obtain ⟨es', c', hes, hrun⟩ : ∃ es' c', MpS (one r (.map ⟨es'⟩ c')) (.map (some r)) (fun s => if key = s then some val else f s) ∧ ∀ w : World, w.heap[r]? = some (.map ⟨es⟩ c) →
      (Instr.mapUpdate t (.map (some r)) (.string key) val).run C.P w = .ok () { w with heap := w.heap.setIfInBounds r (.map ⟨es'⟩ c') } := by
    cases hl : lookL es key none 0 with
    | none =>
      refine ⟨es ++ [{ key := .string key, val := val, born := c }], c + 1, ⟨r, _, _, rfl, rfl, ?_, ?_⟩, ?_⟩
      · intro e he
        rcases List.mem_append.1 he with he | he
        · exact hks e he
        · simp at he; subst he; exact ⟨key, rfl⟩
      · intro s
        rw [lookL_push rfl hks, hf s]
        by_cases e : key = s
        · subst e
          have : f key = none := by rw [← hf key, hl]; rfl
          simp [this]
        · simp [e]; cases f s <;> rfl
      · intro w hb
        unfold Instr.mapUpdate
        simp only [Sem.run_bind, run_underlying' q.eq, Result.andThen_ok, run_getMap hb, run_checkKey, run_findKey hks, hl, run_setMap _ hb]
        congr 2
        simp
    | some p =>
      obtain ⟨i, u⟩ := p
      obtain ⟨l1, l2, l3, l4⟩ := lookL_lt hl
      simp only [Nat.sub_zero] at l2 l3 l4
      obtain ⟨e0, he0, hk0⟩ := Option.map_eq_some_iff.1 l3
      refine ⟨es.set i { e0 with key := .string key, val := val }, c, ⟨r, _, _, rfl, rfl, ?_, ?_⟩, ?_⟩
      · intro e he
        rcases List.mem_or_eq_of_mem_set he with he | he
        · exact hks e he
        · subst he; exact ⟨key, rfl⟩
      · intro s
        have := lookL_set (k := s) (val := val) hks hl { e0 with key := .string key, val := val } rfl rfl
        rw [Nat.sub_zero] at this
        rw [this, hf s]
      · intro w hb
        unfold Instr.mapUpdate
        simp only [Sem.run_bind, run_underlying' q.eq, Result.andThen_ok, run_getMap hb, run_checkKey, run_findKey hks, hl]
        have hge : ((⟨es⟩ : Array MapEntry)[i]?).map (·.key) = some (.string key) := by simpa using l3
        have hst : (Instr.keyThatStays ((((⟨es⟩ : Array MapEntry)[i]?).map (·.key)).getD (.string key)) (.string key)).run C.P w = .ok (.string key) w := by
          rw [hge]
          simp [Instr.keyThatStays, Instr.sameBits, beqS]
        rw [hst]
        simp only [Result.andThen_ok, run_setMap _ hb]
        congr 2
        have : (⟨es⟩ : Array MapEntry).modify i (fun e => { e with key := .string key, val := val }) = ⟨es.set i { e0 with key := .string key, val := val }⟩ := by
          apply Array.toList_inj.1
          simp only [Array.toList_modify]
          rw [List.modify_eq_set]
          simp [he0]
        rw [this]
  refine J.put0 (L' := F (one r (.map ⟨es'⟩ c'))) hk rfl (fun a k w s => ?_) (j _ hes)
  obtain ⟨R, s1, back⟩ := hi.st s
  have hb : w.heap[r]? = some (.map ⟨es⟩ c) := s1.lin _ (List.mem_cons_self ..) _ _ (one_same _ _)
  refine ⟨_, ?_, back _ _ s1.put⟩
  simp only [execOp, k.eval em, k.eval ek, k.eval ev, Sem.run_bind, hrun w hb, Result.andThen_ok, Sem.run_pure]

theorem J.mapGet {t kt et : TypeId} {xm xk : Operand} {m : Hp} {f : ByteArray → Option Value} {F : Hp → List Hp} {key : ByteArray} {z : Value} [q : IsMp C.P t kt et] [qs : IsSt C.P kt] [qz : Zer C.P et z] [hi : HpIn L m F] (ho : MpS m v f)
    (em : evE env xm = some v) (ek : evE env xk = some (.string key)) (hk : okRead k = true) (hlt : Nat.blt d C.nt = true)
    (j : J C (WC C.r C.P ops Q rest) ds ((d, .tuple ⟨[(f key).getD z, .bool (f key).isSome]⟩) :: env) h L) :
    J C (WC C.r C.P ops Q ((⟨some d, .lookup t xm xk true, ty, pos, after, none⟩, k) :: rest)) ds env h L := by
  obtain ⟨r, es, c, rfl, rfl, hks, hf⟩ := ho
  refine J.read0 hk hlt rfl (fun a k w s w' hg => ?_) j
  obtain ⟨R, s1, back⟩ := hi.st s
  have hb : w'.heap[r]? = some (.map ⟨es⟩ c) := hg.get (s1.lin _ (List.mem_cons_self ..) _ _ (one_same _ _))
  have hfk := hf key
  simp only [execOp, k.eval em, k.eval ek, Instr.lookup, Sem.run_bind, run_underlying' q.eq, Result.andThen_ok, run_getMap hb, Sem.run_pure, run_checkKey, run_findKey hks]
  cases hl : lookL es key none 0 with
  | none =>
    rw [hl] at hfk
    simp only [Option.map_none] at hfk
    simp [← hfk, run_zeroValue qz.eq]
  | some p =>
    rw [hl] at hfk
    simp only [Option.map_some] at hfk
    simp [← hfk]
end
end Go.Sod
