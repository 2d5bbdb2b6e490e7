/-
  Heaplets, and what a function may do to the memory: the words of all later texts. Conditions: none.
-/
import Derived.RangeFuncNested
import Derived.OrdersIn
import Derived.Laws.World
import Derived.KernelRfl
namespace Go.Sod

/-- A part of the memory: some blocks, with what they hold. -/
abbrev Hp := Nat → Option Obj
def Hp.le (h k : Hp) : Prop := ∀ b o, h b = some o → k b = some o
def Hp.inW (h : Hp) (w : World) : Prop := ∀ b o, h b = some o → w.heap[b]? = some o
def Hp.dis (h k : Hp) : Prop := ∀ b, h b = none ∨ k b = none
def Hp.has (h : Hp) (b : Nat) : Prop := h b ≠ none
def Hp.un (h k : Hp) : Hp := fun b => match h b with | some o => some o | none => k b
def Hp.emp : Hp := fun _ => none
def one (b : Nat) (o : Obj) : Hp := fun i => if i = b then some o else none
def domL (L : List Hp) (b : Nat) : Prop := ∃ k, k ∈ L ∧ k.has b

theorem one_same (b : Nat) (o : Obj) : one b o b = some o := by simp [one]
theorem one_some {b c : Nat} {o p : Obj} (h : one b o c = some p) : c = b ∧ p = o := by
  unfold one at h; split at h <;> simp_all
theorem Hp.le_refl (h : Hp) : h.le h := fun _ _ e => e
theorem Hp.le_trans {a b c : Hp} (h : a.le b) (k : b.le c) : a.le c := fun x o e => k x o (h x o e)
theorem Hp.dis_symm {a b : Hp} (h : a.dis b) : b.dis a := fun x => (h x).symm
theorem Hp.le_un_left (h k : Hp) : h.le (h.un k) := fun b o e => by simp [Hp.un, e]
theorem Hp.le_un_right {h k : Hp} (d : h.dis k) : k.le (h.un k) := fun b o e => by
  rcases d b with d | d
  · simp [Hp.un, d, e]
  · rw [d] at e; cases e
theorem Hp.un_some {h k : Hp} {b : Nat} {o : Obj} (e : h.un k b = some o) : h b = some o ∨ k b = some o := by
  unfold Hp.un at e
  split at e
  · exact .inl (by simp_all)
  · exact .inr e
theorem Hp.un_has {h k : Hp} {b : Nat} (e : (h.un k).has b) : h.has b ∨ k.has b := by
  unfold Hp.has Hp.un at *
  cases hh : h b <;> simp_all
theorem Hp.inW_lt {h : Hp} {w : World} (e : h.inW w) {b : Nat} (hb : h.has b) : b < w.heap.size := by
  cases hh : h b with
  | none => exact absurd hh hb
  | some o => exact (Array.getElem?_eq_some_iff.1 (e b o hh)).1
theorem Hp.emp_inW (w : World) : Hp.emp.inW w := fun _ _ e => by cases e
theorem Hp.emp_dis (h : Hp) : Hp.emp.dis h := fun _ => .inl rfl
theorem Hp.emp_le (h : Hp) : Hp.emp.le h := fun _ _ e => by cases e

/-- Nothing outside M has turned; no block has gone; nothing but memory and the count of draws has turned. -/
structure GrowBut (M : Nat → Prop) (w w' : World) : Prop where
  os : w'.os = w.os
  tape : w'.tape = w.tape
  output : w'.output = w.output
  size : w.heap.size ≤ w'.heap.size
  block : ∀ b, b < w.heap.size → ¬ M b → w'.heap[b]? = w.heap[b]?

theorem GrowBut.refl (M : Nat → Prop) (w : World) : GrowBut M w w := ⟨rfl, rfl, rfl, Nat.le_refl _, fun _ _ _ => rfl⟩
theorem GrowBut.trans {M N : Nat → Prop} {a b c : World} (h : GrowBut M a b) (k : GrowBut N b c) (hs : ∀ x, N x → M x ∨ a.heap.size ≤ x) : GrowBut M a c :=
  ⟨k.os.trans h.os, k.tape.trans h.tape, k.output.trans h.output, Nat.le_trans h.size k.size, fun x hx hM =>
    (k.block x (Nat.lt_of_lt_of_le hx h.size) (fun hn => (hs x hn).elim hM (fun h2 => by omega))).trans (h.block x hx hM)⟩

/-- All that lay in memory lies there as it lay. -/
def GrowW (w w' : World) : Prop := w.heap.size ≤ w'.heap.size ∧ ∀ b, b < w.heap.size → w'.heap[b]? = w.heap[b]?
theorem GrowW.refl (w : World) : GrowW w w := ⟨Nat.le_refl _, fun _ _ => rfl⟩
theorem GrowW.trans {a b c : World} (h : GrowW a b) (k : GrowW b c) : GrowW a c :=
  ⟨Nat.le_trans h.1 k.1, fun x hx => (k.2 x (Nat.lt_of_lt_of_le hx h.1)).trans (h.2 x hx)⟩
theorem GrowW.get {w w' : World} (h : GrowW w w') {b : Nat} {o : Obj} (e : w.heap[b]? = some o) : w'.heap[b]? = some o :=
  (h.2 b (Array.getElem?_eq_some_iff.1 e).1).trans e

/-- The state of a walk: what lay at the beginning (world, what may be written, what is only read), the world now, what is only read now, the parts that may be written now. -/
structure St (w0 : World) (M0 : Nat → Prop) (h0 : Hp) (w : World) (h : Hp) (L : List Hp) : Prop where
  grow : GrowBut M0 w0 w
  le : h0.le h
  hin : h.inW w
  lin : ∀ k, k ∈ L → k.inW w
  dis : (h :: L).Pairwise Hp.dis
  own : ∀ k, k ∈ L → ∀ b, k.has b → M0 b ∨ w0.heap.size ≤ b
  fresh : ∀ b, h.has b → h0.has b ∨ M0 b ∨ w0.heap.size ≤ b

/-- What a call may begin with. -/
structure Ok (w : World) (h : Hp) (L : List Hp) : Prop where
  hin : h.inW w
  lin : ∀ k, k ∈ L → k.inW w
  dis : (h :: L).Pairwise Hp.dis

theorem Ok.st {w : World} {h : Hp} {L : List Hp} (o : Ok w h L) : St w (domL L) h w h L :=
  ⟨GrowBut.refl _ _, Hp.le_refl _, o.hin, o.lin, o.dis, fun k hk _ hb => .inl ⟨k, hk, hb⟩, fun _ hb => .inl hb⟩
section
variable {w0 w : World} {M0 : Nat → Prop} {h0 h : Hp} {L : List Hp}
theorem St.ok (s : St w0 M0 h0 w h L) : Ok w h L := ⟨s.hin, s.lin, s.dis⟩

theorem Ok.sub {ms L1 : List Hp} (o : Ok w h (ms ++ L1)) : Ok w h ms :=
  ⟨o.hin, fun k hk => o.lin k (List.mem_append_left _ hk), by
    have := o.dis
    rw [← List.cons_append] at this
    exact (List.pairwise_append.1 this).1⟩

theorem dis_h {k : Hp} (s : (h :: L).Pairwise Hp.dis) (hk : k ∈ L) : h.dis k := (List.pairwise_cons.1 s).1 k hk

/-- A callee that may write what lies in ms. -/
theorem St.call {ms L1 ms' : List Hp} {w' : World} {h' : Hp} (s : St w0 M0 h0 w h (ms ++ L1)) (c : St w (domL ms) h w' h' ms') :
    St w0 M0 h0 w' h' (ms' ++ L1) := by
  have hd := s.dis
  rw [← List.cons_append] at hd
  obtain ⟨d1, d2, d3⟩ := List.pairwise_append.1 hd
  have keep : ∀ k, k ∈ L1 → ∀ b o, k b = some o → w'.heap[b]? = some o := by
    intro k hk b o e
    have e1 := s.lin k (List.mem_append_right _ hk) b o e
    rw [c.grow.block b (Array.getElem?_eq_some_iff.1 e1).1 ?_]
    · exact e1
    · rintro ⟨m, hm, hb⟩
      rcases d3 m (List.mem_cons_of_mem _ hm) k hk b with q | q
      · exact hb q
      · rw [q] at e; cases e
  refine ⟨s.grow.trans c.grow ?_, Hp.le_trans s.le c.le, c.hin, ?_, ?_, ?_, ?_⟩
  · rintro x ⟨m, hm, hb⟩; exact s.own m (List.mem_append_left _ hm) x hb
  · intro k hk
    rcases List.mem_append.1 hk with hk | hk
    · exact c.lin k hk
    · exact keep k hk
  · rw [← List.cons_append]
    refine List.pairwise_append.2 ⟨c.dis, (d2 : L1.Pairwise Hp.dis), ?_⟩
    intro x hx k hk b
    -- x is h' or one of ms'
    by_cases e : x b = none
    · exact .inl e
    refine .inr ?_
    cases ek : k b with
    | none => rfl
    | some o =>
      exfalso
      have hlt : b < w.heap.size := (Array.getElem?_eq_some_iff.1 (s.lin k (List.mem_append_right _ hk) b o ek)).1
      rcases List.mem_cons.1 hx with rfl | hx
      · rcases c.fresh b e with q | ⟨m, hm, hb⟩ | q
        · rcases d3 h (List.mem_cons_self ..) k hk b with r | r
          · exact q r
          · rw [r] at ek; cases ek
        · rcases d3 m (List.mem_cons_of_mem _ hm) k hk b with r | r
          · exact hb r
          · rw [r] at ek; cases ek
        · omega
      · rcases c.own x hx b e with ⟨m, hm, hb⟩ | q
        · rcases d3 m (List.mem_cons_of_mem _ hm) k hk b with r | r
          · exact hb r
          · rw [r] at ek; cases ek
        · omega
  · intro k hk b hb
    rcases List.mem_append.1 hk with hk | hk
    · rcases c.own k hk b hb with ⟨m, hm, hb'⟩ | q
      · exact s.own m (List.mem_append_left _ hm) b hb'
      · exact .inr (Nat.le_trans s.grow.size q)
    · exact s.own k (List.mem_append_right _ hk) b hb
  · intro b hb
    rcases c.fresh b hb with q | ⟨m, hm, hb⟩ | q
    · exact s.fresh b q
    · exact .inr (s.own m (List.mem_append_left _ hm) b hb)
    · exact .inr (.inr (Nat.le_trans s.grow.size q))

/-- A callee that writes nothing that lay there. -/
theorem St.call0 {w' : World} {h' : Hp} {ms' : List Hp} (s : St w0 M0 h0 w h L) (c : St w (domL []) h w' h' ms') : St w0 M0 h0 w' h' (ms' ++ L) :=
  St.call (ms := []) s c

theorem St.growW {w' : World} {h' : Hp} {ms' : List Hp} (c : St w (domL []) h w' h' ms') : GrowW w w' :=
  ⟨c.grow.size, fun b hb => c.grow.block b hb (by rintro ⟨_, h, _⟩; cases h)⟩

theorem St.perm {L' : List Hp} (s : St w0 M0 h0 w h L) (p : L.Perm L') : St w0 M0 h0 w h L' :=
  ⟨s.grow, s.le, s.hin, fun k hk => s.lin k (p.mem_iff.2 hk), (p.cons h).pairwise s.dis (fun d => Hp.dis_symm d), fun k hk => s.own k (p.mem_iff.2 hk), s.fresh⟩

/-- What is no longer wanted is let go. -/
theorem St.sub {L' : List Hp} (s : St w0 M0 h0 w h L) (p : L'.Sublist L) : St w0 M0 h0 w h L' :=
  ⟨s.grow, s.le, s.hin, fun k hk => s.lin k (p.subset hk), s.dis.sublist (p.cons_cons h), fun k hk => s.own k (p.subset hk), s.fresh⟩
theorem St.drop (s : St w0 M0 h0 w h L) : St w0 M0 h0 w h [] := s.sub (List.nil_sublist _)

theorem St.drew (s : St w0 M0 h0 w h L) : St w0 M0 h0 { w with drawn := w.drawn + 1 } h L :=
  ⟨⟨s.grow.os, s.grow.tape, s.grow.output, s.grow.size, s.grow.block⟩, s.le, s.hin, s.lin, s.dis, s.own, s.fresh⟩

theorem St.alloc (s : St w0 M0 h0 w h L) (o : Obj) : St w0 M0 h0 (w.alloc o) h (one w.heap.size o :: L) := by
  have old : ∀ b, b < w.heap.size → (w.alloc o).heap[b]? = w.heap[b]? := fun b hb => by
    show (w.heap.push o)[b]? = _
    rw [Array.getElem?_push, if_neg (by omega)]
  have inn : ∀ k : Hp, k.inW w → k.inW (w.alloc o) := fun k hk b p e => by
    rw [old b (Array.getElem?_eq_some_iff.1 (hk b p e)).1]; exact hk b p e
  have dd : ∀ k : Hp, k.inW w → (one w.heap.size o).dis k := fun k hk b => by
    by_cases e : b = w.heap.size
    · right
      cases ek : k b with
      | none => rfl
      | some p => have := (Array.getElem?_eq_some_iff.1 (hk b p ek)).1; omega
    · left; simp [one, e]
  refine ⟨⟨s.grow.os, s.grow.tape, s.grow.output, by have := s.grow.size; simp; omega, fun b hb hM => (old b (Nat.lt_of_lt_of_le hb s.grow.size)).trans (s.grow.block b hb hM)⟩, s.le, inn h s.hin, ?_, ?_, ?_, s.fresh⟩
  · intro k hk
    rcases List.mem_cons.1 hk with rfl | hk
    · intro b p e
      obtain ⟨rfl, rfl⟩ := one_some e
      show (w.heap.push p)[w.heap.size]? = _
      simp
    · exact inn k (s.lin k hk)
  · obtain ⟨d1, d2⟩ := List.pairwise_cons.1 s.dis
    refine List.pairwise_cons.2 ⟨?_, List.pairwise_cons.2 ⟨fun k hk => dd k (s.lin k hk), d2⟩⟩
    intro k hk
    rcases List.mem_cons.1 hk with rfl | hk
    · exact Hp.dis_symm (dd h s.hin)
    · exact d1 k hk
  · intro k hk b hb
    rcases List.mem_cons.1 hk with rfl | hk
    · refine .inr ?_
      have : b = w.heap.size := by
        by_cases e : b = w.heap.size
        · exact e
        · exact absurd (by simp [one, e]) hb
      have := s.grow.size
      omega
    · exact s.own k hk b hb

/-- What is read is taken back to what was read at the beginning. -/
theorem St.shrink (s : St w0 M0 h0 w h L) : St w0 M0 h0 w h0 L := by
  have hd : ∀ k : Hp, h.dis k → h0.dis k := fun k hd b => by
    rcases hd b with q | q
    · left
      cases e : h0 b with
      | none => rfl
      | some o => rw [s.le b o e] at q; cases q
    · exact .inr q
  obtain ⟨d1, d2⟩ := List.pairwise_cons.1 s.dis
  exact ⟨s.grow, Hp.le_refl _, fun b o e => s.hin b o (s.le b o e), s.lin, List.pairwise_cons.2 ⟨fun k hk => hd k (d1 k hk), d2⟩, s.own, fun b hb => .inl hb⟩

/-- A part of one's own is never written again: it is read alone. -/
theorem St.freeze {k : Hp} (s : St w0 M0 h0 w h (k :: L)) : St w0 M0 h0 w (h.un k) L := by
  obtain ⟨d1, d2⟩ := List.pairwise_cons.1 s.dis
  obtain ⟨d3, d4⟩ := List.pairwise_cons.1 d2
  refine ⟨s.grow, Hp.le_trans s.le (Hp.le_un_left _ _), ?_, fun x hx => s.lin x (List.mem_cons_of_mem _ hx), ?_, fun x hx => s.own x (List.mem_cons_of_mem _ hx), ?_⟩
  · intro b o e
    rcases Hp.un_some e with e | e
    · exact s.hin b o e
    · exact s.lin k (List.mem_cons_self ..) b o e
  · refine List.pairwise_cons.2 ⟨fun x hx b => ?_, d4⟩
    rcases d1 x (List.mem_cons_of_mem _ hx) b with q | q
    · rcases d3 x hx b with r | r
      · left; simp [Hp.un, q, r]
      · exact .inr r
    · exact .inr q
  · intro b hb
    rcases Hp.un_has hb with q | q
    · exact s.fresh b q
    · exact .inr (s.own k (List.mem_cons_self ..) b q)

/-- A part is two parts. -/
theorem St.un_split {a b : Hp} (s : St w0 M0 h0 w h (a.un b :: L)) (d : a.dis b) : St w0 M0 h0 w h (a :: b :: L) := by
  obtain ⟨d1, d2⟩ := List.pairwise_cons.1 s.dis
  obtain ⟨d3, d4⟩ := List.pairwise_cons.1 d2
  have hU := s.lin _ (List.mem_cons_self ..)
  have lef : a.le (a.un b) := Hp.le_un_left _ _
  have ri : b.le (a.un b) := Hp.le_un_right d
  have dl : ∀ {x y z : Hp}, x.le y → y.dis z → x.dis z := fun {x y z} hle hd c => by
    rcases hd c with q | q
    · left
      cases e : x c with
      | none => rfl
      | some o => rw [hle c o e] at q; cases q
    · exact .inr q
  have hl : ∀ {x : Hp} {c : Nat}, x.le (a.un b) → x.has c → (a.un b).has c := fun {x c} hle hc => by
    unfold Hp.has at *
    cases e : x c with
    | none => exact absurd e hc
    | some o => rw [hle c o e]; simp
  refine ⟨s.grow, s.le, s.hin, ?_, ?_, ?_, s.fresh⟩
  · intro k hk
    rcases List.mem_cons.1 hk with rfl | hk
    · exact fun c o e => hU c o (lef c o e)
    rcases List.mem_cons.1 hk with rfl | hk
    · exact fun c o e => hU c o (ri c o e)
    · exact s.lin k (List.mem_cons_of_mem _ hk)
  · refine List.pairwise_cons.2 ⟨?_, List.pairwise_cons.2 ⟨?_, List.pairwise_cons.2 ⟨?_, d4⟩⟩⟩
    · intro k hk
      rcases List.mem_cons.1 hk with rfl | hk
      · exact Hp.dis_symm (dl lef (Hp.dis_symm (d1 _ (List.mem_cons_self ..))))
      rcases List.mem_cons.1 hk with rfl | hk
      · exact Hp.dis_symm (dl ri (Hp.dis_symm (d1 _ (List.mem_cons_self ..))))
      · exact d1 k (List.mem_cons_of_mem _ hk)
    · intro k hk
      rcases List.mem_cons.1 hk with rfl | hk
      · exact d
      · exact dl lef (d3 k hk)
    · exact fun k hk => dl ri (d3 k hk)
  · intro k hk c hc
    rcases List.mem_cons.1 hk with rfl | hk
    · exact s.own _ (List.mem_cons_self ..) c (hl lef hc)
    rcases List.mem_cons.1 hk with rfl | hk
    · exact s.own _ (List.mem_cons_self ..) c (hl ri hc)
    · exact s.own k (List.mem_cons_of_mem _ hk) c hc

/-- Two parts are one. -/
theorem St.un_join {a b : Hp} (s : St w0 M0 h0 w h (a :: b :: L)) : St w0 M0 h0 w h (a.un b :: L) := by
  obtain ⟨d1, d2⟩ := List.pairwise_cons.1 s.dis
  obtain ⟨d3, d4⟩ := List.pairwise_cons.1 d2
  obtain ⟨d5, d6⟩ := List.pairwise_cons.1 d4
  have dj : ∀ z : Hp, a.dis z → b.dis z → (a.un b).dis z := fun z ha hb c => by
    rcases ha c with q | q
    · rcases hb c with r | r
      · left; simp [Hp.un, q, r]
      · exact .inr r
    · exact .inr q
  refine ⟨s.grow, s.le, s.hin, ?_, ?_, ?_, s.fresh⟩
  · intro k hk
    rcases List.mem_cons.1 hk with rfl | hk
    · intro c o e
      rcases Hp.un_some e with e | e
      · exact s.lin a (by simp) c o e
      · exact s.lin b (by simp) c o e
    · exact s.lin k (by simp [hk])
  · refine List.pairwise_cons.2 ⟨?_, List.pairwise_cons.2 ⟨?_, d6⟩⟩
    · intro k hk
      rcases List.mem_cons.1 hk with rfl | hk
      · exact Hp.dis_symm (dj _ (Hp.dis_symm (d1 a (by simp))) (Hp.dis_symm (d1 b (by simp))))
      · exact d1 k (by simp [hk])
    · exact fun k hk => dj k (d3 k (by simp [hk])) (d5 k hk)
  · intro k hk c hc
    rcases List.mem_cons.1 hk with rfl | hk
    · rcases Hp.un_has hc with q | q
      · exact s.own a (by simp) c q
      · exact s.own b (by simp) c q
    · exact s.own k (by simp [hk]) c hc

/-- A block of one's own is written. -/
theorem St.put {b : Nat} {o o' : Obj} (s : St w0 M0 h0 w h (one b o :: L)) : St w0 M0 h0 { w with heap := w.heap.setIfInBounds b o' } h (one b o' :: L) := by
  obtain ⟨d1, d2⟩ := List.pairwise_cons.1 s.dis
  obtain ⟨d3, d4⟩ := List.pairwise_cons.1 d2
  have hb : w.heap[b]? = some o := s.lin _ (List.mem_cons_self ..) b o (one_same _ _)
  have hlt : b < w.heap.size := (Array.getElem?_eq_some_iff.1 hb).1
  have oth : ∀ k : Hp, (one b o).dis k → k.inW w → k.inW { w with heap := w.heap.setIfInBounds b o' } := fun k hd hk c p e => by
    have hne : c ≠ b := fun h => by
      subst h
      rcases hd c with q | q
      · rw [one_same] at q; cases q
      · rw [q] at e; cases e
    show (w.heap.setIfInBounds b o')[c]? = _
    rw [Array.getElem?_setIfInBounds_ne (Ne.symm hne)]
    exact hk c p e
  have same : ∀ {k : Hp}, (one b o).dis k → (one b o').dis k := fun {k} hd c => by
    rcases hd c with q | q
    · left; unfold one at q ⊢; split at q <;> simp_all
    · exact .inr q
  refine ⟨⟨s.grow.os, s.grow.tape, s.grow.output, by have := s.grow.size; simpa using this, ?_⟩, s.le, oth h (Hp.dis_symm (d1 _ (List.mem_cons_self ..))) s.hin, ?_, ?_, ?_, s.fresh⟩
  · intro c hc hM
    have hne : c ≠ b := fun e => by
      subst e
      rcases s.own _ (List.mem_cons_self ..) c (by simp [Hp.has, one]) with q | q
      · exact hM q
      · omega
    show (w.heap.setIfInBounds b o')[c]? = _
    rw [Array.getElem?_setIfInBounds_ne (Ne.symm hne)]
    exact s.grow.block c hc hM
  · intro k hk
    rcases List.mem_cons.1 hk with rfl | hk
    · intro c p e
      obtain ⟨rfl, rfl⟩ := one_some e
      show (w.heap.setIfInBounds c p)[c]? = _
      simp [hlt]
    · exact oth k (d3 k hk) (s.lin k (List.mem_cons_of_mem _ hk))
  · refine List.pairwise_cons.2 ⟨?_, List.pairwise_cons.2 ⟨fun k hk => same (d3 k hk), d4⟩⟩
    intro k hk
    rcases List.mem_cons.1 hk with rfl | hk
    · exact Hp.dis_symm (same (Hp.dis_symm (d1 _ (List.mem_cons_self ..))))
    · exact d1 k (List.mem_cons_of_mem _ hk)
  · intro k hk c hc
    rcases List.mem_cons.1 hk with rfl | hk
    · refine s.own (one b o) (List.mem_cons_self ..) c ?_
      unfold Hp.has one at *
      split at hc <;> simp_all
    · exact s.own k (List.mem_cons_of_mem _ hk) c hc
end
end Go.Sod
