/-
  Small functions of the law, walked. Conditions: none.
-/
import Derived.Test.YthlffjbmmoglfaaD4
namespace Go.Sod
set_option linter.unusedVariables false
set_option linter.unusedSimpArgs false
set_option maxRecDepth 10000
set_option maxHeartbeats 4000000

/-- the first n rise -/
def RisTo (ids : List ByteArray) (n : Nat) : Prop := ∀ i, i + 1 < n → strLt (ids.getD i ⟨#[]⟩) (ids.getD (i + 1) ⟨#[]⟩) = true
open Classical in
noncomputable def risB (ids : List ByteArray) : Bool := decide (RisTo ids ids.length)
noncomputable def risO (o : Own) : Bool := risB (o.services.map (·.id)) && risB (o.checks.map (·.id))
def few (o : Own) : Own := { o with services := o.services.take 30, checks := o.checks.take 30 }
theorem getD_id {α : Type} {xs : List α} {f : α → ByteArray} {i : Nat} (hi : i < xs.length) : (xs.map f).getD i ⟨#[]⟩ = f xs[i] := by
  simp [List.getD_eq_getElem?_getD, hi]
open Classical in
theorem risB_true {α : Type} {xs : List α} {f : α → ByteArray} {n : Nat} (h : RisTo (xs.map f) n) (hn : xs.length ≤ n) : risB (xs.map f) = true := by
  refine decide_eq_true fun i hi => h i ?_
  rw [List.length_map] at hi; omega
open Classical in
theorem risB_false {α : Type} {xs : List α} {f : α → ByteArray} {k : Nat} (h1 : 1 ≤ k) (hk : k < xs.length) (hb : strLt (f xs[k - 1]) (f xs[k]) = false) : risB (xs.map f) = false := by
  refine decide_eq_false fun h => ?_
  have := h (k - 1) (by rw [List.length_map]; omega)
  rw [getD_id (by omega), show k - 1 + 1 = k by omega, getD_id hk, hb] at this
  cases this
theorem RisTo.step {α : Type} {xs : List α} {f : α → ByteArray} {k : Nat} (h : RisTo (xs.map f) k) (h1 : 1 ≤ k) (hk : k < xs.length) (hb : strLt (f xs[k - 1]) (f xs[k]) = true) : RisTo (xs.map f) (k + 1) := by
  intro i hi
  by_cases e : i + 1 = k
  · rw [getD_id (by omega), e, getD_id hk]
    have : i = k - 1 := by omega
    subst this; exact hb
  · exact h i (by omega)
/-- the place of the first one with an id -/
def idxB {α : Type} (p : α → Bool) (xs : List α) : Int := match xs.findIdx? p with | some k => (k : Int) | none => -1
theorem idxB_some {α : Type} {p : α → Bool} {xs : List α} {k : Nat} (hk : k < xs.length) (h : ∀ i (hi : i < xs.length), i < k → p xs[i] = false) (e : p xs[k] = true) : idxB p xs = (k : Int) := by
  have : xs.findIdx? p = some k := by
    rw [List.findIdx?_eq_some_iff_getElem]
    exact ⟨hk, e, fun j hj => by simpa using h j (by omega) hj⟩
  simp [idxB, this]
theorem idxB_none {α : Type} {p : α → Bool} {xs : List α} (h : ∀ i (hi : i < xs.length), p xs[i] = false) : idxB p xs = -1 := by
  have : xs.findIdx? p = none := by
    rw [List.findIdx?_eq_none_iff]
    intro x hx
    obtain ⟨i, hi, rfl⟩ := List.getElem_of_mem hx
    exact h i hi
  simp [idxB, this]
def idS (id : ByteArray) : Svc → Bool := fun s => decide (s.id = id)
def idC (id : ByteArray) : Chk → Bool := fun s => decide (s.id = id)
/-- a command's eight texts -/
def textsOf (c : Cmd) : List ByteArray := [c.id, c.name, c.service, c.note, c.key, c.value, c.src, c.dst]

theorem few_walk {h : Hp} {o : Own} {osv ocv : Value} (hos : SlR h 7 RSvc osv o.services) (hoc : SlR h 7 RChk ocv o.checks) : FH Go.Proofs.Try.prog 5 [.agg ⟨ownV o osv ocv⟩] h (fun r h' => ∃ sv cv, r = .agg ⟨ownV (few o) sv cv⟩ ∧ SlR h' 7 RSvc sv (few o).services ∧ SlR h' 7 RChk cv (few o).checks) := by
  refine FS.enter Go.Proofs.Try.func5 rfl rfl fun w0 => ?_
  obtain ⟨sA, sc, rfl⟩ := hos.form
  obtain ⟨cA, cc, rfl⟩ := hoc.form
  refine .seq (.text (.box (cs := [_, _, _, _, _]) rfl rfl rfl rfl fun b1 => .alloc (cs := [_, _, _, _, _]) rfl rfl rfl fun b2 => .done (.thenN ?_)))
  refine J.cut (ι := Value) (fun i => SlR h 7 RSvc i (o.services.take 30)) (fun i => [(1, .pointer (some ⟨b1, 0, none⟩)), (2, .pointer (some ⟨b2, 0, none⟩))]) (fun _ => h) (fun i => [one b2 (.cells ⟨[.bool false, .int .i64 0, .string ⟨#[]⟩, .slice none 0 0, .slice none 0 0]⟩ 25 (0, 0)), one b1 (.cells ⟨ownV o i (.slice cA o.checks.length cc)⟩ 25 (0, 0))]) ?_ ?_
  ·
    refine .seq (.text (.fa rfl rfl (.ld rfl rfl rfl rfl (.len hos rfl rfl rfl (.cmp rfl rfl rfl rfl (.done (.thenN ?_)))))))
    refine .cond rfl (fun hb1 => ?_) (fun hb1 => ?_)
    ·
      have hb : 30 < o.services.length := by simp [cmpI] at hb1; omega
      refine .text (.fa rfl rfl (.ld rfl rfl rfl rfl (.slR (i := 0) (j' := 30) hos rfl rfl ⟨_, _, rfl, rfl⟩ (by omega) (by omega) rfl fun v9 hv9 => ?_)))
      rw [List.drop_zero] at hv9
      obtain ⟨A9, c9, rfl⟩ := hv9.form
      refine .fa rfl rfl (.stS rfl rfl rfl rfl (.done (.thenN ?_)))
      exact J.mid _ hv9 (.cons rfl (.cons rfl (.nil _))) rfl rfl
    ·
      have hb : o.services.length ≤ 30 := by simp [cmpI] at hb1; omega
      refine .skip (.thenN ?_)
      refine J.mid _ ?_ (.cons rfl (.cons rfl (.nil _))) rfl rfl
      rw [List.take_of_length_le hb]; exact hos
  ·
    intro sv hos
    try dsimp only
    unfold ownV
    obtain ⟨sA', sc', rfl⟩ := hos.form
    refine J.cut (ι := Value) (fun i => SlR h 7 RChk i (o.checks.take 30)) (fun i => [(1, .pointer (some ⟨b1, 0, none⟩)), (2, .pointer (some ⟨b2, 0, none⟩))]) (fun _ => h) (fun i => [one b2 (.cells ⟨[.bool false, .int .i64 0, .string ⟨#[]⟩, .slice none 0 0, .slice none 0 0]⟩ 25 (0, 0)), one b1 (.cells ⟨ownV o (.slice sA' (o.services.take 30).length sc') i⟩ 25 (0, 0))]) ?_ ?_
    ·
      refine .seq (.text (.fa rfl rfl (.ld rfl rfl rfl rfl (.len hoc rfl rfl rfl (.cmp rfl rfl rfl rfl (.done (.thenN ?_)))))))
      refine .cond rfl (fun hb3 => ?_) (fun hb3 => ?_)
      ·
        have hb : 30 < o.checks.length := by simp [cmpI] at hb3; omega
        refine .text (.fa rfl rfl (.ld rfl rfl rfl rfl (.slR (i := 0) (j' := 30) hoc rfl rfl ⟨_, _, rfl, rfl⟩ (by omega) (by omega) rfl fun v17 hv17 => ?_)))
        rw [List.drop_zero] at hv17
        obtain ⟨A17, c17, rfl⟩ := hv17.form
        refine .fa rfl rfl (.stS rfl rfl rfl rfl (.done (.thenN ?_)))
        exact J.mid _ hv17 (.cons rfl (.cons rfl (.nil _))) rfl rfl
      ·
        have hb : o.checks.length ≤ 30 := by simp [cmpI] at hb3; omega
        refine .skip (.thenN ?_)
        refine J.mid _ ?_ (.cons rfl (.cons rfl (.nil _))) rfl rfl
        rw [List.take_of_length_le hb]; exact hoc
    ·
      intro cv hoc
      try dsimp only
      obtain ⟨cA', cc', rfl⟩ := hoc.form
      refine .seq (.text (.ldW rfl rfl rfl rfl (.stW rfl rfl rfl rfl rfl rfl (.done (.thenN ?_)))))
      refine .ret ?_
      exact J.retBoxA rfl rfl rfl (List.nil_sublist _) ⟨⟨_, _, rfl, hos, hoc⟩, rfl⟩

theorem rising_walk {h : Hp} {o : Own} {osv ocv : Value} (hos : SlR h 7 RSvc osv o.services) (hoc : SlR h 7 RChk ocv o.checks) : FV Go.Proofs.Try.prog 6 [.agg ⟨ownV o osv ocv⟩] h (.bool (risO o)) := by
  refine FS.enter Go.Proofs.Try.func6 rfl rfl fun w0 => ?_
  obtain ⟨sA, sc, rfl⟩ := hos.form
  obtain ⟨cA, cc, rfl⟩ := hoc.form
  refine .seq (.text (.box (cs := [_, _, _, _, _]) rfl rfl rfl rfl fun b1 => .as_ rfl rfl (.done (.thenN ?_))))
  refine .seq (.seq (.text (.as_ rfl rfl (.done (.thenN ?_)))))
  refine .block (?_)
  refine J.loop (fun k : Nat => 1 ≤ k ∧ RisTo (o.services.map (·.id)) k) (fun k => [(1, .pointer (some ⟨b1, 0, none⟩)), (3, .int .i64 (k : Int))]) (fun _ => h) (fun k => [one b1 (.cells ⟨ownV o (.slice sA o.services.length sc) (.slice cA o.checks.length cc)⟩ 25 (0, 0))]) (fun k => o.services.length + 1 - k) 1 ⟨Nat.le_refl _, fun i hi => by omega⟩ (.cons rfl (.cons rfl (.nil _))) rfl rfl ?_
  rintro k ⟨hk1, hall⟩
  refine .seq (.seq (.text (.mv rfl rfl (.fa rfl rfl (.ld rfl rfl rfl rfl (.len hos rfl rfl rfl (.cmp rfl rfl rfl rfl (.done (.thenN ?_)))))))))
  refine .cond rfl (fun hb2 => ?_) (fun hb2 => ?_)
  ·
    have hk : k < o.services.length := by simp [cmpI] at hb2; omega
    refine .skip (.thenN ?_)
    refine .seq (.block (.seq (.draw [(0, .pure), (1, .read), (2, .pure), (3, .pure), (4, .pure), (5, .pure), (6, .read), (7, .pure), (8, .read), (9, .pure), (10, .pure), (11, .pure), (12, .read), (13, .pure)] rfl (by kernel_rfl) (.fa rfl rfl (.ld rfl rfl rfl rfl (.mv rfl rfl (.dec rfl rfl hk1 (by have := hos.len; unfold maxL at this; omega) rfl (.ix (i := k - 1) hos rfl rfl rfl (by omega) rfl (.faE rfl (hos.ne (by omega)) rfl (.ldG (.string o.services[k - 1].id) hos (by omega) rfl (fun vs e => e.f1) rfl rfl (.fa rfl rfl (.ld rfl rfl rfl rfl (.mv rfl rfl (.ix (i := k) hos rfl rfl rfl hk rfl (.faE rfl (hos.ne (by omega)) rfl (.ldG (.string o.services[k].id) hos hk rfl (fun vs e => e.f1) rfl rfl (.cmpS rfl rfl rfl rfl (.done (.thenN ?_)))))))))))))))))))
    refine .cond rfl (fun hb4 => ?_) (fun hb4 => ?_)
    ·
      refine .seq (.text (.as_ rfl rfl (.done (.thenN ?_))))
      refine .ret (.blkR (.thenR (.thenR (.blkR (.thenR ?_)))))
      have hf : risB (o.services.map (·.id)) = false := risB_false (f := fun s => s.id) hk1 hk (by simpa [cmpS] using hb4)
      exact J.retV rfl (by simp [resOne, risO, hf])
    ·
      refine .skip (.blkN (.thenN ?_))
      refine .text (.mv rfl rfl (.inc rfl rfl (by have := hos.len; unfold maxL at this; omega) rfl (.as_ rfl rfl (.done (.thenN ?_)))))
      exact J.again (k + 1) (by omega) ⟨by omega, hall.step (f := fun s => s.id) hk1 hk (by simpa [cmpS] using hb4)⟩ (.cons rfl (.cons rfl (.nil _))) rfl rfl
  ·
    have hk : o.services.length ≤ k := by simp [cmpI] at hb2; omega
    have hris := risB_true hall hk
    refine .exit (.thenE (.thenE (.blkHit (.thenN ?_))))
    refine .seq (.seq (.text (.as_ rfl rfl (.done (.thenN ?_)))))
    refine .block (?_)
    refine J.loop (fun k : Nat => 1 ≤ k ∧ RisTo (o.checks.map (·.id)) k) (fun k => [(1, .pointer (some ⟨b1, 0, none⟩)), (4, .int .i64 (k : Int))]) (fun _ => h) (fun k => [one b1 (.cells ⟨ownV o (.slice sA o.services.length sc) (.slice cA o.checks.length cc)⟩ 25 (0, 0))]) (fun k => o.checks.length + 1 - k) 1 ⟨Nat.le_refl _, fun i hi => by omega⟩ (.cons rfl (.cons rfl (.nil _))) rfl rfl ?_
    rintro k ⟨hk1, hall⟩
    refine .seq (.seq (.text (.mv rfl rfl (.fa rfl rfl (.ld rfl rfl rfl rfl (.len hoc rfl rfl rfl (.cmp rfl rfl rfl rfl (.done (.thenN ?_)))))))))
    refine .cond rfl (fun hb7 => ?_) (fun hb7 => ?_)
    ·
      have hk : k < o.checks.length := by simp [cmpI] at hb7; omega
      refine .skip (.thenN ?_)
      refine .seq (.block (.seq (.draw [(0, .pure), (1, .read), (2, .pure), (3, .pure), (4, .pure), (5, .pure), (6, .read), (7, .pure), (8, .read), (9, .pure), (10, .pure), (11, .pure), (12, .read), (13, .pure)] rfl (by kernel_rfl) (.fa rfl rfl (.ld rfl rfl rfl rfl (.mv rfl rfl (.dec rfl rfl hk1 (by have := hoc.len; unfold maxL at this; omega) rfl (.ix (i := k - 1) hoc rfl rfl rfl (by omega) rfl (.faE rfl (hoc.ne (by omega)) rfl (.ldG (.string o.checks[k - 1].id) hoc (by omega) rfl (fun vs e => e.f1) rfl rfl (.fa rfl rfl (.ld rfl rfl rfl rfl (.mv rfl rfl (.ix (i := k) hoc rfl rfl rfl hk rfl (.faE rfl (hoc.ne (by omega)) rfl (.ldG (.string o.checks[k].id) hoc hk rfl (fun vs e => e.f1) rfl rfl (.cmpS rfl rfl rfl rfl (.done (.thenN ?_)))))))))))))))))))
      refine .cond rfl (fun hb9 => ?_) (fun hb9 => ?_)
      ·
        refine .seq (.text (.as_ rfl rfl (.done (.thenN ?_))))
        refine .ret (.blkR (.thenR (.thenR (.blkR (.thenR ?_)))))
        have hf : risB (o.checks.map (·.id)) = false := risB_false (f := fun s => s.id) hk1 hk (by simpa [cmpS] using hb9)
        exact J.retV rfl (by simp [resOne, risO, hf])
      ·
        refine .skip (.blkN (.thenN ?_))
        refine .text (.mv rfl rfl (.inc rfl rfl (by have := hoc.len; unfold maxL at this; omega) rfl (.as_ rfl rfl (.done (.thenN ?_)))))
        exact J.again (k + 1) (by omega) ⟨by omega, hall.step (f := fun s => s.id) hk1 hk (by simpa [cmpS] using hb9)⟩ (.cons rfl (.cons rfl (.nil _))) rfl rfl
    ·
      have hk : o.checks.length ≤ k := by simp [cmpI] at hb7; omega
      refine .exit (.thenE (.thenE (.blkHit (.thenN ?_))))
      refine .seq (.text (.as_ rfl rfl (.done (.thenN ?_))))
      refine .ret ?_
      have hc := risB_true hall hk
      exact J.retV rfl (by simp only [resOne, risO, hris, hc]; rfl)

theorem idxS_walk {h : Hp} {v : Value} {xs : List Svc} {id : ByteArray} (hv : SlR h 7 RSvc v xs) : FV Go.Proofs.Try.prog 15 [v, .string id] h (.int .i64 (idxB (idS id) xs)) := by
  refine FS.enter Go.Proofs.Try.func15 rfl rfl fun w0 => ?_
  refine .seq (.text (.as_ rfl rfl (.done (.thenN ?_))))
  refine .seq (.seq (.text (.as_ rfl rfl (.done (.thenN ?_)))))
  refine .block (?_)
  refine J.loop (fun k : Nat => k ≤ xs.length ∧ ∀ i (hi : i < xs.length), i < k → idS id xs[i] = false) (fun k => [(0, v), (1, .string id), (5, .int .i64 (k : Int))]) (fun _ => h) (fun _ => []) (fun k => xs.length - k) 0 ⟨by omega, fun i hi h => by omega⟩ (.cons rfl (.cons rfl (.cons rfl (.nil _)))) rfl rfl ?_
  rintro k ⟨hk0, hall⟩
  refine .seq (.seq (.text (.mv rfl rfl (.mv rfl rfl (.len hv rfl rfl rfl (.cmp rfl rfl rfl rfl (.done (.thenN ?_))))))))
  refine .cond rfl (fun hb2 => ?_) (fun hb2 => ?_)
  ·
    have hk : k < xs.length := by simp [cmpI] at hb2; omega
    refine .skip (.thenN ?_)
    refine .seq (.block (.seq (.text (.mv rfl rfl (.mv rfl rfl (.ix (i := k) hv rfl rfl rfl hk rfl (.faE rfl (hv.ne (by omega)) rfl (.ldG (.string xs[k].id) hv hk rfl (fun vs e => e.f1) rfl rfl (.mv rfl rfl (.cmpS rfl rfl rfl rfl (.done (.thenN ?_))))))))))))
    refine .cond rfl (fun hb4 => ?_) (fun hb4 => ?_)
    ·
      refine .seq (.text (.mv rfl rfl (.as_ rfl rfl (.done (.thenN ?_)))))
      refine .ret (.blkR (.thenR (.thenR (.blkR (.thenR ?_)))))
      exact J.retV rfl (by simp only [resOne]; rw [idxB_some hk hall (by simpa [idS, cmpS] using hb4)])
    ·
      refine .skip (.blkN (.thenN ?_))
      refine .text (.mv rfl rfl (.inc rfl rfl (by have := hv.len; unfold maxL at this; omega) rfl (.as_ rfl rfl (.done (.thenN ?_)))))
      refine J.again (k + 1) (by omega) ⟨hk, fun i hi hik => ?_⟩ (.cons rfl (.cons rfl (.cons rfl (.nil _)))) rfl rfl
      by_cases e : i = k
      · subst e; simpa [idS, cmpS] using hb4
      · exact hall i hi (by omega)
  ·
    have hk : k = xs.length := by simp [cmpI] at hb2; omega
    subst hk
    refine .exit (.thenE (.thenE (.blkHit (.thenN ?_))))
    refine .seq (.text (.as_ rfl rfl (.done (.thenN ?_))))
    refine .ret ?_
    exact J.retV rfl (by simp only [resOne]; rw [idxB_none fun i hi => hall i hi hi])

theorem idxC_walk {h : Hp} {v : Value} {xs : List Chk} {id : ByteArray} (hv : SlR h 7 RChk v xs) : FV Go.Proofs.Try.prog 14 [v, .string id] h (.int .i64 (idxB (idC id) xs)) := by
  refine FS.enter Go.Proofs.Try.func14 rfl rfl fun w0 => ?_
  refine .seq (.text (.as_ rfl rfl (.done (.thenN ?_))))
  refine .seq (.seq (.text (.as_ rfl rfl (.done (.thenN ?_)))))
  refine .block (?_)
  refine J.loop (fun k : Nat => k ≤ xs.length ∧ ∀ i (hi : i < xs.length), i < k → idC id xs[i] = false) (fun k => [(0, v), (1, .string id), (5, .int .i64 (k : Int))]) (fun _ => h) (fun _ => []) (fun k => xs.length - k) 0 ⟨by omega, fun i hi h => by omega⟩ (.cons rfl (.cons rfl (.cons rfl (.nil _)))) rfl rfl ?_
  rintro k ⟨hk0, hall⟩
  refine .seq (.seq (.text (.mv rfl rfl (.mv rfl rfl (.len hv rfl rfl rfl (.cmp rfl rfl rfl rfl (.done (.thenN ?_))))))))
  refine .cond rfl (fun hb2 => ?_) (fun hb2 => ?_)
  ·
    have hk : k < xs.length := by simp [cmpI] at hb2; omega
    refine .skip (.thenN ?_)
    refine .seq (.block (.seq (.text (.mv rfl rfl (.mv rfl rfl (.ix (i := k) hv rfl rfl rfl hk rfl (.faE rfl (hv.ne (by omega)) rfl (.ldG (.string xs[k].id) hv hk rfl (fun vs e => e.f1) rfl rfl (.mv rfl rfl (.cmpS rfl rfl rfl rfl (.done (.thenN ?_))))))))))))
    refine .cond rfl (fun hb4 => ?_) (fun hb4 => ?_)
    ·
      refine .seq (.text (.mv rfl rfl (.as_ rfl rfl (.done (.thenN ?_)))))
      refine .ret (.blkR (.thenR (.thenR (.blkR (.thenR ?_)))))
      exact J.retV rfl (by simp only [resOne]; rw [idxB_some hk hall (by simpa [idC, cmpS] using hb4)])
    ·
      refine .skip (.blkN (.thenN ?_))
      refine .text (.mv rfl rfl (.inc rfl rfl (by have := hv.len; unfold maxL at this; omega) rfl (.as_ rfl rfl (.done (.thenN ?_)))))
      refine J.again (k + 1) (by omega) ⟨hk, fun i hi hik => ?_⟩ (.cons rfl (.cons rfl (.cons rfl (.nil _)))) rfl rfl
      by_cases e : i = k
      · subst e; simpa [idC, cmpS] using hb4
      · exact hall i hi (by omega)
  ·
    have hk : k = xs.length := by simp [cmpI] at hb2; omega
    subst hk
    refine .exit (.thenE (.thenE (.blkHit (.thenN ?_))))
    refine .seq (.text (.as_ rfl rfl (.done (.thenN ?_))))
    refine .ret ?_
    exact J.retV rfl (by simp only [resOne]; rw [idxB_none fun i hi => hall i hi hi])

theorem texts_walk {h : Hp} {c : Cmd} {vs : List Value} (hc : RCmd h c vs) : FH Go.Proofs.Try.prog 26 [.agg ⟨vs⟩] h (fun r h' => SlR h' 1 RS r (textsOf c)) := by
  refine FS.enter Go.Proofs.Try.func26 rfl rfl fun w0 => ?_
  obtain ⟨tv, sv, rfl, ht⟩ := hc.open
  obtain ⟨tA, tc, rfl⟩ := ht.form
  obtain ⟨sA, sn, sc, rfl⟩ := hc.sub
  refine .seq (.text (.box (cs := [_, _, _, _, _, _, _, _, _, _, _, _, _, _, _, _, _]) rfl rfl rfl rfl fun b1 => .as_ rfl rfl (.done (.thenN ?_))))
  refine .seq (.text (.fa rfl rfl (.ld rfl rfl rfl rfl (.fa rfl rfl (.ld rfl rfl rfl rfl (.fa rfl rfl (.ld rfl rfl rfl rfl (.fa rfl rfl (.ld rfl rfl rfl rfl (.fa rfl rfl (.ld rfl rfl rfl rfl (.fa rfl rfl (.ld rfl rfl rfl rfl (.fa rfl rfl (.ld rfl rfl rfl rfl (.fa rfl rfl (.ld rfl rfl rfl rfl (.bs ((textsOf c).map .string) rfl rfl rfl rfl (by decide) rfl rfl rfl fun b19 => .as_ rfl rfl (.done (.thenN ?_))))))))))))))))))))
  refine .ret ?_
  exact J.frz (SlT.strs (xs := textsOf c) (by simp [textsOf, maxL])) RS.mono fun h' hl hs => J.retH rfl hs

theorem dsame_walk {h : Hp} {o c : Own} {osv ocv csv ccv : Value} (hos : SlR h 7 RSvc osv o.services) (hoc : SlR h 7 RChk ocv o.checks) (hcs : SlR h 7 RSvc csv c.services) (hcc : SlR h 7 RChk ccv c.checks) (hlen : bulkO o c < maxL) : FH Go.Proofs.Try.prog 11 [.agg ⟨ownV o osv ocv⟩, .agg ⟨ownV c csv ccv⟩] h (fun r h' => r = .bool (decide (((diffL o c).length : Int) = 0))) := by
  refine FS.enter Go.Proofs.Try.func11 rfl rfl fun w0 => ?_
  obtain ⟨sA, sc, rfl⟩ := hos.form
  obtain ⟨cA, cc, rfl⟩ := hoc.form
  obtain ⟨sA', sc', rfl⟩ := hcs.form
  obtain ⟨cA', cc', rfl⟩ := hcc.form
  refine .seq (.text (.box (cs := [_, _, _, _, _]) rfl rfl rfl rfl fun b2 => .box (cs := [_, _, _, _, _]) rfl rfl rfl rfl fun b3 => .as_ rfl rfl (.done (.thenN ?_))))
  refine .seq (.text (.ldW rfl rfl rfl rfl (.ldW rfl rfl rfl rfl (?_))))
  refine .callH rfl rfl (diff_walk hos hoc hcs hcc hlen) rfl rfl fun u7 h7 hl7 hu7 => .len hu7 rfl rfl rfl (.cmp rfl rfl rfl rfl (.as_ rfl rfl (.done (.thenN ?_))))
  refine .ret ?_
  exact J.retH rfl rfl

theorem works_walk {h : Hp} : FH Go.Proofs.Try.prog 7 [] h (fun r h' => r = .bool true) := by
  refine FS.enter Go.Proofs.Try.func7 rfl rfl fun w0 => ?_
  refine .seq (.text (.as_ rfl rfl (.done (.thenN ?_))))
  refine .seq (.text (.bld (ownV ⟨false, 1, ⟨#[120]⟩, [], []⟩ nilV nilV) rfl rfl rfl ?_))
  refine .bld (ownV ⟨false, 0, ⟨#[]⟩, [], []⟩ nilV nilV) rfl rfl rfl ?_
  refine ?_
  refine .callH rfl rfl (diff_walk (o := ⟨false, 1, ⟨#[120]⟩, [], []⟩) (c := ⟨false, 0, ⟨#[]⟩, [], []⟩) (SlR.nil _ _ _) (SlR.nil _ _ _) (SlR.nil _ _ _) (SlR.nil _ _ _) (by decide)) rfl rfl fun u4 h4 hl4 hu4 => ?_
  replace hu4 : SlR h4 17 RCmd u4 [{ cmd0 1 1 with note := ⟨#[120]⟩ }] := hu4
  refine .as_ rfl rfl (.done (.thenN ?_))
  refine .seq (.text (.mv rfl rfl (.len hu4 rfl rfl rfl (.cmp (b := true) rfl rfl rfl rfl (.mv rfl rfl (.guard rfl rfl rfl rfl (.mv rfl rfl (.guard rfl rfl rfl rfl (.ix hu4 rfl rfl (i := 0) rfl (by decide) rfl (.guard rfl rfl rfl rfl (.faE rfl (hu4.ne (by decide)) rfl (.guard rfl rfl rfl rfl (.ldG (.int .i64 1) hu4 (i := 0) (by decide) rfl (fun vs e => e.f0) rfl rfl (.guard rfl rfl rfl rfl (.cmp (b := true) rfl rfl rfl rfl (.pick rfl rfl rfl rfl (.mv rfl rfl (.guard rfl rfl rfl rfl (.mv rfl rfl (.guard rfl rfl rfl rfl (.ix hu4 rfl rfl (i := 0) rfl (by decide) rfl (.guard rfl rfl rfl rfl (.faE rfl (hu4.ne (by decide)) rfl (.guard rfl rfl rfl rfl (.ldG (.int .i64 1) hu4 (i := 0) (by decide) rfl (fun vs e => e.f1) rfl rfl (.guard rfl rfl rfl rfl (.cmp (b := true) rfl rfl rfl rfl (.pick rfl rfl rfl rfl (.mv rfl rfl (.guard rfl rfl rfl rfl (.mv rfl rfl (.guard rfl rfl rfl rfl (.ix hu4 rfl rfl (i := 0) rfl (by decide) rfl (.guard rfl rfl rfl rfl (.faE rfl (hu4.ne (by decide)) rfl (.guard rfl rfl rfl rfl (.ldG (.string ⟨#[120]⟩) hu4 (i := 0) (by decide) rfl (fun vs e => e.f7) rfl rfl (.guard rfl rfl rfl rfl (.cmpS (b := true) rfl rfl (by simp [cmpS]) rfl (.pick rfl rfl rfl rfl (.as_ rfl rfl (.done (.thenN ?_)))))))))))))))))))))))))))))))))))))))))))
  refine .ret ?_
  exact J.retH rfl rfl
end Go.Sod
