/-
  What came in, read as plain data; what is left behind a call that wrote nothing of it. Conditions: none.
-/
import Derived.Test.YtemcklmfpapmpaaGreatCore20
import Derived.OpenShut
import Derived.ProofKit
namespace Go.Sod
set_option linter.unusedVariables false
open Go.ChangeShapes Go.RowKit

/-- a measure of data: so that a slice is no longer than it, nor a part greater -/
structure Blk (H : Type) (bulk : DataW H → Nat) : Prop where
  len : ∀ es sp, es.length ≤ bulk (.slice es sp)
  mem : ∀ es sp e, e ∈ es → bulk e ≤ bulk (.slice es sp)
  agg : ∀ ps e, e ∈ ps → bulk e ≤ bulk (.agg ps)
  str : ∀ bytes, bytes.length ≤ bulk (.lit (.string bytes))

/-- all that lies in memory -/
def hp (W : World) : Hp := fun b => W.heap[b]?
theorem hp_ok (W : World) : Ok W (hp W) [] := ⟨fun b o e => e, fun k hk => (by cases hk), List.pairwise_singleton ..⟩

section
variable {H : Type} {enc : TypeId × Value → H} {P : Program} {W : World} {bulk : DataW H → Nat}

/-- what reads by a type lies so -/
def Rd (enc : TypeId × Value → H) (P : Program) (W : World) (bulk : DataW H → Nat) {α : Type} (t : TypeId) (sz : Nat) (R : Rp α) : Prop :=
  ∀ fuel cs x, DataW.trod enc P W 0 (fun _ => true) true fuel t cs = some x → bulk x.1 ≤ maxL → ∃ a, R (hp W) a cs ∧ cs.length = sz ∧ cs.all oneV = true
def RB : Rp Bool := fun _ b vs => vs = [.bool b]
def RL {α : Type} (sz : Nat) (R : Rp α) : Rp (List α) := fun h xs vs => ∃ v, vs = [v] ∧ SlR h sz R v xs

theorem Rd.str {t : TypeId} [q : IsSt P t] : Rd enc P W bulk t 1 RS := fun fuel cs x h _ => by
  obtain ⟨s, rfl, _, _⟩ := DataW.trod_string q.eq h
  exact ⟨s, rfl, rfl, rfl⟩
def RSz : Rp ByteArray := fun _ s vs => vs = [.string s] ∧ s.size ≤ maxL
theorem Rd.strZ {t : TypeId} (B : Blk H bulk) [q : IsSt P t] : Rd enc P W bulk t 1 RSz := fun fuel cs x h hb => by
  obtain ⟨s, rfl, rfl, _⟩ := DataW.trod_string q.eq h
  exact ⟨s, ⟨rfl, Nat.le_trans (by simpa using B.str s.data.toList) hb⟩, rfl, rfl⟩
def RU (k : IntKind) : Rp Int := fun _ n vs => vs = [.int k n] ∧ (Lit.int k n).wf = true
theorem Rd.intZ {t : TypeId} {k : IntKind} [q : IsIn P t k] : Rd enc P W bulk t 1 (RU k) := fun fuel cs x h _ => by
  obtain ⟨n, rfl, _, hw⟩ := DataW.trod_int q.eq h
  exact ⟨n, ⟨rfl, hw⟩, rfl, rfl⟩
theorem Rd.int {t : TypeId} {k : IntKind} [q : IsIn P t k] : Rd enc P W bulk t 1 (RI k) := fun fuel cs x h _ => by
  obtain ⟨n, rfl, _, _⟩ := DataW.trod_int q.eq h
  exact ⟨n, rfl, rfl, rfl⟩
theorem Rd.bool {t : TypeId} [q : IsBo P t] : Rd enc P W bulk t 1 RB := fun fuel cs x h _ => by
  obtain ⟨b, rfl, _⟩ := DataW.trod_bool q.eq h
  exact ⟨b, rfl, rfl, rfl⟩

theorem cell_at {W : World} {a : Addr} {v : Value} (h : W.cell? a = some v) : a.spot = none ∧ ∃ all T fr, W.heap[a.block]? = some (.cells ⟨all⟩ T fr) ∧ all[a.off]? = some v := by
  unfold World.cell? at h
  split at h
  · rename_i c T fr hb
    split at h
    · cases h
    · rename_i hs
      refine ⟨by simpa using hs, c.toList, T, fr, hb, by simpa using h⟩
  · cases h

theorem Addr.add_spot {a : Addr} (h : a.spot = none) (n : Nat) : a.add n = ⟨a.block, a.off + n, none⟩ := by
  obtain ⟨b, o, s⟩ := a
  dsimp only at h
  subst h
  unfold Addr.add
  split
  · rename_i e; subst e; rfl
  · rfl

theorem RdF.slice {α : Type} {t e : TypeId} {sz fuel : Nat} {R : Rp α} (B : Blk H bulk) [q : IsSl P t e] [qs : SzOf P e sz] (hsz : 0 < sz)
    (r : ∀ n, n < fuel → ∀ cs x, DataW.trod enc P W 0 (fun _ => true) true n e cs = some x → bulk x.1 ≤ maxL → ∃ a, R (hp W) a cs ∧ cs.length = sz ∧ cs.all oneV = true) :
    ∀ cs x, DataW.trod enc P W 0 (fun _ => true) true fuel t cs = some x → bulk x.1 ≤ maxL → ∃ a, RL sz R (hp W) a cs ∧ cs.length = 1 ∧ cs.all oneV = true := fun cs x h hb => by
  have hc : P.cellsOf e = sz := by
    obtain ⟨i, hi, h2⟩ := Option.map_eq_some_iff.1 qs.size
    simp [Program.cellsOf, hi, h2]
  rcases DataW.trod_slice q.eq h with ⟨rfl, rfl⟩ | ⟨a, len, cap, elems, rest, n, rfl, rfl, rfl, h1, h2, h3, h4, h5, _⟩
  · exact ⟨[], ⟨_, rfl, SlR.nil _ _ _⟩, rfl, rfl⟩
  · rw [hc] at h5
    have hlen := B.len (elems.map (·.1)) (rest.map (·.1))
    rw [List.length_map, h4] at hlen
    -- each element
    have key : ∀ i, i < len → ∃ y vs, R (hp W) y vs ∧ vs.length = sz ∧ vs.all oneV = true ∧ ElAt (hp W) (some a) (i * sz) vs := by
      intro i hi
      have h5i := h5 i hi
      have hx : elems[i]? = some elems[i] := List.getElem?_eq_getElem (by omega)
      rw [hx] at h5i
      obtain ⟨vs, hv, ht⟩ := Option.bind_eq_some_iff.1 h5i
      obtain ⟨_, hvl, hcell⟩ := World.cells?_some hv
      obtain ⟨y, hR, hl, ho⟩ := r n (Nat.lt_succ_self n) vs _ ht (Nat.le_trans (B.mem (elems.map (·.1)) (rest.map (·.1)) _ (List.mem_map.2 ⟨_, List.getElem_mem (by omega), rfl⟩)) hb)
      refine ⟨y, vs, hR, hl, ho, ?_⟩
      -- where it lies
      have hs0 : a.spot = none := by
        have h50 := h5 0 (by omega)
        have hx0 : elems[0]? = some (elems[0]'(by omega)) := List.getElem?_eq_getElem (by omega)
        rw [hx0] at h50
        obtain ⟨vs0, hv0, _⟩ := Option.bind_eq_some_iff.1 h50
        obtain ⟨_, hvl0, hcell0⟩ := World.cells?_some hv0
        have h00 := hcell0 0 hsz
        rw [Nat.zero_mul] at h00
        have e0 : (a.add 0).add 0 = a := by simp [Addr.add]
        rw [e0, List.getElem?_eq_getElem (by omega)] at h00
        exact (cell_at h00).1
      have e1 : ∀ j, (a.add (i * sz)).add j = ⟨a.block, a.off + i * sz + j, none⟩ := fun j => by
        rw [Addr.add_spot hs0, Addr.add_spot rfl]
      have c0 := hcell 0 hsz
      rw [e1, List.getElem?_eq_getElem (by omega)] at c0
      obtain ⟨_, all, T, fr, hb0, _⟩ := cell_at c0
      refine ⟨a.block, a.off, all, T, fr, ?_, hb0, fun j hj => ?_⟩
      · obtain ⟨ab, ao, as⟩ := a
        dsimp only at hs0
        subst hs0; rfl
      · have cj := hcell j (by omega)
        rw [e1, List.getElem?_eq_getElem hj] at cj
        obtain ⟨_, all', T', fr', hb', hj'⟩ := cell_at cj
        dsimp only at hb0 hb' hj'
        rw [hb0] at hb'
        simp only [Option.some.injEq, Obj.cells.injEq, Array.mk.injEq] at hb'
        obtain ⟨rfl, _⟩ := hb'
        rw [hj', List.getElem?_eq_getElem hj]
    -- the list of them
    have lst : ∀ m, m ≤ len → ∃ xs : List α, xs.length = m ∧ ∀ i (hi : i < xs.length), ∃ vs, vs.length = sz ∧ vs.all oneV = true ∧ R (hp W) xs[i] vs ∧ ElAt (hp W) (some a) (i * sz) vs := by
      intro m
      induction m with
      | zero => intro _; exact ⟨[], rfl, fun i hi => by simp at hi⟩
      | succ m ih =>
        intro hm
        obtain ⟨xs, hxl, hx⟩ := ih (by omega)
        obtain ⟨y, vs, hR, hl, ho, hE⟩ := key m (by omega)
        refine ⟨xs ++ [y], by simp [hxl], fun i hi => ?_⟩
        by_cases e : i < xs.length
        · rw [List.getElem_append_left e]; exact hx i e
        · have : i = m := by simp at hi; omega
          subst this
          rw [List.getElem_append_right (by omega)]
          simp only [hxl, Nat.sub_self, List.getElem_cons_zero]
          exact ⟨vs, hl, ho, hR, hE⟩
    obtain ⟨xs, hxl, hx⟩ := lst len (Nat.le_refl _)
    subst hxl
    exact ⟨xs, ⟨_, rfl, some a, cap, rfl, h2, Nat.le_trans hlen hb, hx⟩, rfl, rfl⟩

theorem Rd.slice {α : Type} {t e : TypeId} {sz : Nat} {R : Rp α} (B : Blk H bulk) [q : IsSl P t e] [qs : SzOf P e sz] (hsz : 0 < sz) (r : Rd enc P W bulk e sz R) : Rd enc P W bulk t 1 (RL sz R) :=
  fun fuel cs x h hb => RdF.slice B hsz (fun n _ => r n) cs x h hb
theorem rd_len {t : TypeId} {n fuel : Nat} {cs : List Value} {x : DataW H × List MemPlace} {f off : Nat} {ft : TypeId} [q : Fld P t f off ft] [qs : SzOf P t n] (h : DataW.trod enc P W 0 (fun _ => true) true fuel t cs = some x) : cs.length = n := by
  obtain ⟨fs, fd, h1, _⟩ := q.eq
  obtain ⟨xs, m, rfl, rfl, hl, _⟩ := DataW.trod_struct h1 h
  obtain ⟨i, hi, h2⟩ := Option.map_eq_some_iff.1 qs.size
  rw [hl]; simp [Program.cellsOf, hi, h2]
/-- one field of a struct that was read -/
theorem rd_fldF {α : Type} {t : TypeId} {n fuel : Nat} {cs : List Value} {x : DataW H × List MemPlace} {off : Nat} {ft : TypeId} {R : Rp α} (B : Blk H bulk) (f : Nat) [q : Fld P t f off ft] [qs : SzOf P ft n] (h : DataW.trod enc P W 0 (fun _ => true) true fuel t cs = some x) (hb : bulk x.1 ≤ maxL)
    (r : ∀ m, m < fuel → ∀ cs x, DataW.trod enc P W 0 (fun _ => true) true m ft cs = some x → bulk x.1 ≤ maxL → ∃ a, R (hp W) a cs ∧ cs.length = n ∧ cs.all oneV = true) :
    ∃ a, R (hp W) a ((cs.drop off).take n) ∧ ((cs.drop off).take n).all oneV = true := by
  obtain ⟨fs, fd, h1, h2, rfl, rfl⟩ := q.eq
  obtain ⟨xs, m, rfl, rfl, hl, hxl, hall⟩ := DataW.trod_struct h1 h
  obtain ⟨i, hi, h3⟩ := Option.map_eq_some_iff.1 qs.size
  have hc : P.cellsOf fd.type = n := by simp [Program.cellsOf, hi, h3]
  have h4 := hall f fd h2
  have hf : f < xs.length := by
    rw [hxl]; exact (Array.getElem?_eq_some_iff.1 h2).1
  rw [hc, List.getElem?_eq_getElem hf] at h4
  obtain ⟨a, ha, _, ho⟩ := r m (Nat.lt_succ_self m) _ _ h4 (Nat.le_trans (B.agg (xs.map (·.1)) _ (List.mem_map.2 ⟨_, List.getElem_mem hf, rfl⟩)) hb)
  exact ⟨a, ha, ho⟩
theorem rd_fld {α : Type} {t : TypeId} {n fuel : Nat} {cs : List Value} {x : DataW H × List MemPlace} {off : Nat} {ft : TypeId} {R : Rp α} (B : Blk H bulk) (f : Nat) [q : Fld P t f off ft] [qs : SzOf P ft n] (h : DataW.trod enc P W 0 (fun _ => true) true fuel t cs = some x) (hb : bulk x.1 ≤ maxL) (r : Rd enc P W bulk ft n R) :
    ∃ a, R (hp W) a ((cs.drop off).take n) ∧ ((cs.drop off).take n).all oneV = true := rd_fldF B f h hb fun m _ => r m

/-- an array of three numbers -/
theorem Rd.arr3 {t e : TypeId} {k : IntKind} [qa : IsAr P t 3 e] [q : IsIn P e k] [qs : SzOf P e 1] [qt : SzOf P t 3] : Rd enc P W bulk t 3 (fun _ (a : Int × Int × Int) vs => vs = [.int k a.1, .int k a.2.1, .int k a.2.2] ∧ (Lit.int k a.1).wf = true ∧ (Lit.int k a.2.1).wf = true ∧ (Lit.int k a.2.2).wf = true) := fun fuel cs x h _ => by
  have hc : P.cellsOf e = 1 := by
    obtain ⟨i, hi, h2⟩ := Option.map_eq_some_iff.1 qs.size
    simp [Program.cellsOf, hi, h2]
  have ht : P.cellsOf t = 3 := by
    obtain ⟨i, hi, h2⟩ := Option.map_eq_some_iff.1 qt.size
    simp [Program.cellsOf, hi, h2]
  obtain ⟨xs, m, rfl, rfl, hl, hxl, hall⟩ := DataW.trod_array qa.eq h
  rw [ht] at hl
  rw [hc] at hall
  match cs, hl with
  | [c0, c1, c2], _ =>
    have g : ∀ i, i < 3 → ∃ y, xs[i]? = some y := fun i hi => ⟨_, List.getElem?_eq_getElem (by omega)⟩
    obtain ⟨y0, e0⟩ := g 0 (by omega)
    obtain ⟨y1, e1⟩ := g 1 (by omega)
    obtain ⟨y2, e2⟩ := g 2 (by omega)
    obtain ⟨n0, z0, _, w0⟩ := DataW.trod_int q.eq ((hall 0 (by omega)).trans e0)
    obtain ⟨n1, z1, _, w1⟩ := DataW.trod_int q.eq ((hall 1 (by omega)).trans e1)
    obtain ⟨n2, z2, _, w2⟩ := DataW.trod_int q.eq ((hall 2 (by omega)).trans e2)
    simp only [Nat.zero_mul, List.drop_zero, List.take_succ_cons, List.take_zero, List.cons.injEq, and_true] at z0
    simp only [Nat.one_mul, List.drop_succ_cons, List.drop_zero, List.take_succ_cons, List.take_zero, List.cons.injEq, and_true] at z1
    simp only [Nat.mul_one, List.drop_succ_cons, List.drop_zero, List.take_succ_cons, List.take_zero, List.cons.injEq, and_true] at z2
    subst z0; subst z1; subst z2
    exact ⟨(n0, n1, n2), ⟨rfl, w0, w1, w2⟩, rfl, rfl⟩
theorem cells_sl {t e : TypeId} {base : Nat} {v : Value} (hu : P.underlying t = some (.slice e)) (h : Value.okWide P W .any base t v) : v.cells = #[v] := by
  cases v <;> first | rfl | (simp [Value.okWide, hu, Cell.okWide, Cell.ok] at h)
theorem cells_in {t : TypeId} {k : IntKind} {base : Nat} {v : Value} (hu : P.underlying t = some (.int k)) (h : Value.okWide P W .any base t v) : v.cells = #[v] := by
  cases v <;> first | rfl | (simp [Value.okWide, hu, Cell.okWide, Cell.ok] at h)
theorem cells_st {t : TypeId} {base : Nat} {v : Value} (hu : P.underlying t = some .string) (h : Value.okWide P W .any base t v) : v.cells = #[v] := by
  cases v <;> first | rfl | (simp [Value.okWide, hu, Cell.okWide, Cell.ok] at h)
theorem cells_bo {t : TypeId} {base : Nat} {v : Value} (hu : P.underlying t = some .bool) (h : Value.okWide P W .any base t v) : v.cells = #[v] := by
  cases v <;> first | rfl | (simp [Value.okWide, hu, Cell.okWide, Cell.ok] at h)
theorem cells_ag {t : TypeId} {fs : Array Field} {base : Nat} {v : Value} (hu : P.underlying t = some (.struct fs)) (h : Value.okWide P W .any base t v) : ∃ cs, v = .agg ⟨cs⟩ := by
  unfold Value.okWide at h
  rw [hu] at h
  obtain ⟨⟨cs⟩, rfl, _⟩ := h
  exact ⟨cs, rfl⟩

theorem trodAll_stays (hl : laidOutB P = true) {W' : World} {sp : Nat → Bool} : ∀ {ts : List TypeId} {vs : List Value} {ds : List (DataW H)} {ps : List MemPlace}, (∀ t, t ∈ ts → P.readableRec t = true ∧ t < P.types.size) →
    DataW.TrodAll enc P W 0 (fun _ => true) true ts vs ds ps → (∀ p, p ∈ ps → W.sameAt W' p) → (∀ p, p ∈ ps → sp p.block = true) → DataW.TrodAll enc P W' 0 sp true ts vs ds ps
  | [], [], [], _, _, h, _, _ => h
  | t :: ts, v :: vs, d :: ds, _, hr, ⟨p, q, h1, h2, e⟩, hs, hsp => by
    subst e
    refine ⟨p, q, WideElems.Trod_stays hl (hr t (List.mem_cons_self ..)).1 (hr t (List.mem_cons_self ..)).2 h1 (fun x hx => hs x (List.mem_append_left _ hx)) (fun x hx => hsp x (List.mem_append_left _ hx)), ?_, rfl⟩
    exact trodAll_stays hl (fun t ht => hr t (List.mem_cons_of_mem _ ht)) h2 (fun x hx => hs x (List.mem_append_right _ hx)) (fun x hx => hsp x (List.mem_append_right _ hx))
  | [], [], _ :: _, _, _, h, _, _ => h.elim
  | [], _ :: _, _, _, _, h, _, _ => by cases h
  | _ :: _, [], _, _, _, h, _, _ => by cases h
  | _ :: _, _ :: _, [], _, _, h, _, _ => by cases h

/-- **What is left**: true, and what came in as it was. -/
theorem post_true {f : Func} {s : ChangeSpec} {W' : World} {args : Array Value} {ds gs : List (DataW H)} {before : List MemPlace} {t : TypeId}
    (hl : laidOutB P = true) (hr : ∀ t, t ∈ f.params.toList → P.readableRec t = true ∧ t < P.types.size)
    (hW : DataW.Whole enc P f.params.toList s.vars false W args.toList ds gs before) (hv : s.vars = []) (hs : gs = [] → s.fn H (ds ++ gs) = { results := [.lit (.bool true)], args := ds })
    (hres : f.resultTypes = #[t]) (hbo : P.underlying t = some .bool) (hg : GrowBut (fun _ => False) W W') : s.post enc P f false true false false W args (.bool true) W' := by
  have hlt := hW.lt
  have hW0 := hW
  obtain ⟨p, q, hA, hV, e, hz, hn⟩ := hW
  rw [hv] at hV
  obtain ⟨hgs, rfl⟩ := trodVars_none hV
  rw [List.append_nil] at e
  subst e
  have hs := hs hgs
  have hblk : ∀ x, x ∈ before → W'.heap[x.block]? = W.heap[x.block]? := fun x hx => hg.block _ (hlt x hx) (fun h => h)
  have hsame : ∀ x, x ∈ before → W.sameAt W' x := by
    intro x hx
    have hb := hblk x hx
    cases x with
    | cell b o => simp only [World.sameAt, World.cell?]; simp only [MemPlace.block] at hb; rw [hb]
    | map b => exact hb
  have hres' : ∀ (b : Nat) (sp : Nat → Bool) (hd : Bool), DataW.TrodAll enc P W' b sp hd f.resultTypes.toList ((Value.bool true).resultList f.resultTypes.size) (s.fn H (ds ++ gs)).results [] := by
    intro b sp hd
    rw [hs, hres]
    exact trodAll_mk1 (shut_bool hbo true)
  have hargs : ∀ sp : Nat → Bool, (∀ x ∈ before, sp x.block = true) → DataW.TrodAll enc P W' 0 sp true f.params.toList args.toList (s.fn H (ds ++ gs)).args before := by
    intro sp hsp
    rw [hs]
    exact trodAll_stays hl hr hA hsame hsp
  have hvars : ∀ sp : Nat → Bool, DataW.TrodVars enc P W' sp s.vars (s.fn H (ds ++ gs)).vars [] := by
    intro sp
    rw [hs, hv]
    rfl
  have hold : ∀ x ∈ before, (fun b => decide (b < W.heap.size)) x.block = true := fun x hx => by simpa using hlt x hx
  have hok := ok_one (W' := W') hres rfl (okWide_bool_mk (P := P) hbo true)
  refine ⟨ds, gs, before, [], before, [], hW0, hres' _ _ _, hargs _ hold, hvars _, ?_, fun _ => ?_⟩
  · refine ⟨hg.os, hg.output, fun i hi => ?_⟩
    rw [hg.block i hi (fun h => h)]
    have e : W.heap[i]? = some W.heap[i] := Array.getElem?_eq_getElem hi
    rw [e]
    cases W.heap[i] <;> simp
  · refine ⟨hok, _, _, ([] ++ before) ++ [], ⟨[] ++ before, [], trodAll_append (hargs _ (fun _ _ => rfl)) (hres' _ _ _), hvars _, rfl, ?_, ?_⟩, ?_⟩
    · intro b off hp
      have hp' : MemPlace.cell b off ∈ before := by simpa using hp
      have := hz b off hp'
      have hb := hblk _ hp'
      simp only [MemPlace.block] at hb
      simpa only [World.frozen?, hb] using this
    · intro ha; cases ha
    · intro x hx _; simpa using hx
end
end Go.Sod
