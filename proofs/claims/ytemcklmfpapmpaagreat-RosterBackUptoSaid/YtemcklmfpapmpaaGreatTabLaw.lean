/-
  The plain law of a table's rows: laid by key, they rise; and they are what the document's list is. Conditions: none.
-/
import Derived.Test.YtemcklmfpapmpaaGreatR5
namespace Go.Sod
set_option linter.unusedVariables false
set_option linter.unusedSimpArgs false

theorem bytesLess_total : ∀ (a b : List UInt8), Op.bytesLess a b = false → a ≠ b → Op.bytesLess b a = true
  | [], [], _, h => absurd rfl h
  | [], _ :: _, h, _ => by simp [Op.bytesLess] at h
  | _ :: _, [], _, _ => rfl
  | x :: a, y :: b, h, hn => by
    simp only [Op.bytesLess, Bool.or_eq_false_iff, Bool.and_eq_false_imp, decide_eq_false_iff_not, beq_iff_eq, Bool.or_eq_true, Bool.and_eq_true, decide_eq_true_eq] at *
    by_cases e : x = y
    · subst e
      exact .inr ⟨rfl, bytesLess_total a b (h.2 rfl) (fun e => hn (by rw [e]))⟩
    · left
      rcases Nat.lt_trichotomy x.toNat y.toNat with q | q | q
      · exact absurd (UInt8.lt_iff_toNat_lt.2 q) h.1
      · exact absurd (UInt8.toNat_inj.1 q) e
      · exact UInt8.lt_iff_toNat_lt.2 q
theorem toList_inj {a b : ByteArray} (h : a.toList = b.toList) : a = b := by
  have := strEq a b
  rw [h] at this
  simpa using this.symm
theorem strLt_total {a b : ByteArray} (h : strLt a b = false) (hn : a ≠ b) : strLt b a = true := bytesLess_total _ _ h (fun e => hn (toList_inj e))
theorem strLt_asymm {a b : ByteArray} (h : strLt a b = true) : strLt b a = false := by
  cases e : strLt b a with
  | false => rfl
  | true => have := strLt_trans h e; rw [strLt_irrefl] at this; cases this

theorem firstN_lt {p : Nat → Bool} {n i : Nat} (h : i < firstN p n) : p i = false := by
  have hle := firstN_le p n
  have h2 : i < (List.range n).findIdx p := h
  have := List.not_of_lt_findIdx h2
  simpa using this
theorem firstN_at {p : Nat → Bool} {n : Nat} (h : firstN p n < n) : p (firstN p n) = true := by
  have h2 : (List.range n).findIdx p < (List.range n).length := by simpa [firstN] using h
  have := List.findIdx_getElem (w := h2)
  simpa [firstN] using this

section
variable {α : Type} {xs : List (Row α)} {key : ByteArray}
theorem atK_le : atK xs key ≤ xs.length := firstN_le _ _
theorem atK_below {i : Nat} (h : i < atK xs key) : strLt (keyAt xs i) key = true := by
  have := firstN_lt h
  simpa [atP] using this
theorem atK_here (h : atK xs key < xs.length) : strLt (keyAt xs (atK xs key)) key = false := by
  have h2 : atP xs key (atK xs key) = true := firstN_at h
  simpa [atP] using h2
theorem atIs_iff : atIs xs key = true ↔ atK xs key < xs.length ∧ keyAt xs (atK xs key) = key := by
  simp only [atIs, Bool.and_eq_true, decide_eq_true_eq]
  constructor <;> rintro ⟨a, b⟩ <;> exact ⟨by omega, b⟩
/-- the keys behind the place are greater -/
theorem atK_above (hs : Srt xs) {i : Nat} (h1 : (if atIs xs key then atK xs key + 1 else atK xs key) ≤ i) (h2 : i < xs.length) : strLt key (keyAt xs i) = true := by
  cases hi : atIs xs key with
  | true =>
    rw [if_pos hi] at h1
    obtain ⟨a, b⟩ := atIs_iff.1 hi
    have := hs (atK xs key) i (by omega) h2
    rwa [b] at this
  | false =>
    rw [if_neg (ifn hi)] at h1
    have hk : atK xs key < xs.length := by omega
    have hne : keyAt xs (atK xs key) ≠ key := fun e => by rw [atIs_iff.2 ⟨hk, e⟩] at hi; cases hi
    have h0 := strLt_total (atK_here hk) hne
    by_cases e : atK xs key = i
    · rw [← e]; exact h0
    · exact strLt_trans h0 (hs _ i (by omega) h2)
theorem putL_split {v : α} {ix : Int} {r0 : Row α} : putL xs key v ix r0 = xs.take (atK xs key) ++ putRow xs key v ix :: xs.drop (if atIs xs key then atK xs key + 1 else atK xs key) := by
  have hle := atK_le (xs := xs) (key := key)
  unfold putL
  cases hi : atIs xs key with
  | true =>
    obtain ⟨a, b⟩ := atIs_iff.1 hi
    simp only [if_true]
    rw [List.set_eq_take_append_cons_drop, if_pos a]
  | false =>
    simp only [Bool.false_eq_true, if_false]
    have hl : (upL (xs ++ [r0]) (atK xs key)).length = xs.length + 1 := by rw [upL_len (by simp; omega)]; simp
    rw [List.set_eq_take_append_cons_drop, if_pos (by rw [hl]; omega)]
    have e1 : (upL (xs ++ [r0]) (atK xs key)).take (atK xs key) = xs.take (atK xs key) := by
      unfold upL
      rw [List.take_append_of_le_length (by simp; omega), List.take_take, Nat.min_eq_left (by omega), List.take_append_of_le_length hle]
    have e2 : (upL (xs ++ [r0]) (atK xs key)).drop (atK xs key + 1) = xs.drop (atK xs key) := by
      unfold upL
      rw [List.drop_append_of_le_length (by simp; omega), List.drop_of_length_le (by simp; omega), List.nil_append, List.drop_append_of_le_length hle]
      rw [List.take_append_of_le_length (by simp; omega)]
      apply List.take_of_length_le; simp; omega
    rw [e1, e2]
theorem srt_iff : Srt xs ↔ (xs.map (·.key)).Pairwise (fun a b => strLt a b = true) := by
  rw [List.pairwise_iff_getElem]
  constructor
  · intro h i j hi hj hij
    rw [List.length_map] at hi hj
    have := h i j hij hj
    rw [keyAt_eq hi, keyAt_eq hj] at this
    simpa using this
  · intro h i j hij hj
    have := h i j (by simp; omega) (by simpa using hj) hij
    rw [keyAt_eq (by omega), keyAt_eq hj]
    simpa using this
theorem mem_take_idx {x : Row α} {k : Nat} (h : x ∈ xs.take k) : ∃ i, i < k ∧ i < xs.length ∧ x.key = keyAt xs i := by
  obtain ⟨i, hi, rfl⟩ := List.getElem_of_mem h
  rw [List.length_take] at hi
  exact ⟨i, by omega, by omega, by rw [keyAt_eq (by omega)]; simp⟩
theorem mem_drop_idx {x : Row α} {k : Nat} (h : x ∈ xs.drop k) : ∃ i, k ≤ i ∧ i < xs.length ∧ x.key = keyAt xs i := by
  obtain ⟨i, hi, rfl⟩ := List.getElem_of_mem h
  rw [List.length_drop] at hi
  exact ⟨k + i, by omega, by omega, by rw [keyAt_eq (by omega)]; simp⟩
theorem putL_srt (hs : Srt xs) {v : α} {ix : Int} {r0 : Row α} : Srt (putL xs key v ix r0) := by
  rw [srt_iff, putL_split, List.map_append, List.map_cons, List.pairwise_append]
  have hp := srt_iff.1 hs
  refine ⟨?_, List.pairwise_cons.2 ⟨?_, ?_⟩, ?_⟩
  · rw [List.map_take]; exact hp.sublist (List.take_sublist _ _)
  · intro b hb
    obtain ⟨x, hx, rfl⟩ := List.mem_map.1 hb
    obtain ⟨i, h1, h2, h3⟩ := mem_drop_idx hx
    rw [h3]; exact atK_above hs h1 h2
  · rw [List.map_drop]; exact hp.sublist (List.drop_sublist _ _)
  · intro a ha b hb
    obtain ⟨x, hx, rfl⟩ := List.mem_map.1 ha
    obtain ⟨i, h1, h2, h3⟩ := mem_take_idx hx
    have hxk : strLt x.key key = true := by rw [h3]; exact atK_below h1
    rcases List.mem_cons.1 hb with rfl | hb
    · exact hxk
    · obtain ⟨y, hy, rfl⟩ := List.mem_map.1 hb
      obtain ⟨j, g1, g2, g3⟩ := mem_drop_idx hy
      rw [g3]; exact strLt_trans hxk (atK_above hs g1 g2)
theorem putL_len {v : α} {ix : Int} {r0 : Row α} : (putL xs key v ix r0).length = if atIs xs key then xs.length else xs.length + 1 := by
  rw [putL_split]
  have hle := atK_le (xs := xs) (key := key)
  cases hi : atIs xs key with
  | true => obtain ⟨a, _⟩ := atIs_iff.1 hi; simp; omega
  | false => simp; omega
theorem putL_mem {v : α} {ix : Int} {r0 r : Row α} (h : r ∈ putL xs key v ix r0) : r ∈ xs ∨ r = putRow xs key v ix := by
  rw [putL_split] at h
  rcases List.mem_append.1 h with h | h
  · exact .inl (List.mem_of_mem_take h)
  · rcases List.mem_cons.1 h with h | h
    · exact .inr h
    · exact .inl (List.mem_of_mem_drop h)
theorem putL_le {v : α} {ix most : Int} {r0 : Row α} (hf : putFull most xs key = false) (hm : most ≤ 64) (hl : xs.length ≤ 64) : (putL xs key v ix r0).length ≤ 64 := by
  rw [putL_len]
  cases hi : atIs xs key with
  | true => simp; omega
  | false =>
    simp only [putFull, hi, Bool.not_false, Bool.true_and, decide_eq_false_iff_not] at hf
    simp; omega
end

/-! ### The document's lists -/
def stepI {α : Type} (same gt : α → Bool) (setM : α → α → α) (st : List α × Bool × α) (x : α) : List α × Bool × α :=
  if same x = true then (st.1 ++ [setM st.2.2 x], true, setM st.2.2 x) else if (!st.2.1 && gt x) = true then (st.1 ++ [st.2.2, x], true, st.2.2) else (st.1 ++ [x], st.2.1, st.2.2)
def insI {α : Type} (same gt : α → Bool) (setM : α → α → α) (xs : List α) (cur : α) : List α :=
  if (xs.foldl (stepI same gt setM) ([], false, cur)).2.1 = true then (xs.foldl (stepI same gt setM) ([], false, cur)).1 else (xs.foldl (stepI same gt setM) ([], false, cur)).1 ++ [(xs.foldl (stepI same gt setM) ([], false, cur)).2.2]
section
variable {α : Type} {same gt : α → Bool} {setM : α → α → α}
theorem stepI_laid : ∀ (xs acc : List α) (c : α), (∀ x, x ∈ xs → same x = false) → xs.foldl (stepI same gt setM) (acc, true, c) = (acc ++ xs, true, c) := by
  intro xs
  induction xs with
  | nil => intro acc c _; simp
  | cons x xs ih =>
    intro acc c h
    have h0 := h x (by simp)
    rw [List.foldl_cons]
    simp only [stepI, h0, Bool.false_eq_true, if_false, Bool.not_true, Bool.false_and]
    rw [ih _ _ (fun y hy => h y (by simp [hy]))]; simp
theorem stepI_small : ∀ (xs acc : List α) (c : α), (∀ x, x ∈ xs → same x = false ∧ gt x = false) → xs.foldl (stepI same gt setM) (acc, false, c) = (acc ++ xs, false, c) := by
  intro xs
  induction xs with
  | nil => intro acc c _; simp
  | cons x xs ih =>
    intro acc c h
    obtain ⟨h0, h1⟩ := h x (by simp)
    rw [List.foldl_cons]
    simp only [stepI, h0, h1, Bool.false_eq_true, if_false, Bool.and_false]
    rw [ih _ _ (fun y hy => h y (by simp [hy]))]; simp
theorem insI_here {A B : List α} {x c : α} (hA : ∀ y, y ∈ A → same y = false ∧ gt y = false) (hx : same x = true) (hB : ∀ y, y ∈ B → same y = false) : insI same gt setM (A ++ x :: B) c = A ++ setM c x :: B := by
  have : (A ++ x :: B).foldl (stepI same gt setM) ([], false, c) = (A ++ setM c x :: B, true, setM c x) := by
    rw [List.foldl_append, stepI_small A [] c hA, List.foldl_cons]
    simp only [stepI, hx, if_true]
    rw [stepI_laid B _ _ hB]; simp
  simp [insI, this]
theorem insI_new {A B : List α} {c : α} (hA : ∀ y, y ∈ A → same y = false ∧ gt y = false) (hB : ∀ y, y ∈ B → same y = false ∧ gt y = true) : insI same gt setM (A ++ B) c = A ++ c :: B := by
  cases B with
  | nil =>
    have : (A ++ []).foldl (stepI same gt setM) ([], false, c) = (A, false, c) := by rw [List.append_nil, stepI_small A [] c hA]; simp
    unfold insI; rw [this]; simp
  | cons x B =>
    have : (A ++ x :: B).foldl (stepI same gt setM) ([], false, c) = (A ++ c :: x :: B, true, c) := by
      rw [List.foldl_append, stepI_small A [] c hA, List.foldl_cons]
      simp only [stepI, (hB x (by simp)).1, (hB x (by simp)).2, Bool.false_eq_true, if_false, Bool.not_false, Bool.true_and, if_true]
      rw [stepI_laid B _ _ (fun y hy => (hB y (by simp [hy])).1)]; simp
    simp [insI, this]
theorem stepI_len : ∀ (xs : List α) (st : List α × Bool × α), (xs.foldl (stepI same gt setM) st).1.length + (if (xs.foldl (stepI same gt setM) st).2.1 = true then 0 else 1) ≤ st.1.length + xs.length + (if st.2.1 = true then 0 else 1) := by
  intro xs
  induction xs with
  | nil => intro st; simp only [List.foldl_nil, List.length_nil, Nat.add_zero]; exact Nat.le_refl _
  | cons x xs ih =>
    intro st
    rw [List.foldl_cons]
    have h0 := ih (stepI same gt setM st x)
    refine Nat.le_trans h0 ?_
    unfold stepI
    rw [List.length_cons]
    by_cases h1 : same x = true
    · simp only [h1, if_true, List.length_append, List.length_cons, List.length_nil]; omega
    · simp only [h1, Bool.false_eq_true, if_false]
      by_cases h2 : (!st.2.1 && gt x) = true
      · simp only [h2, if_true, List.length_append, List.length_cons, List.length_nil]
        have : st.2.1 = false := by cases e : st.2.1 <;> simp_all
        rw [this]; simp; omega
      · simp only [h2, Bool.false_eq_true, if_false, List.length_append, List.length_cons, List.length_nil]; omega
theorem stepI_len' (xs : List α) (c : α) : (xs.foldl (stepI same gt setM) ([], false, c)).1.length ≤ xs.length + 1 := by
  have := stepI_len (same := same) (gt := gt) (setM := setM) xs ([], false, c)
  simp at this; omega
/-- **The table's rows are the document's list.** -/
theorem ins_put {xs : List (Row α)} {key : ByteArray} {told : Row α → α} {v cur : α} {ix : Int} {r0 : Row α} (hs : Srt xs) (hsame : ∀ r, r ∈ xs → same (told r) = decide (r.key = key)) (hgt : ∀ r, r ∈ xs → gt (told r) = strLt key r.key)
    (h1 : atIs xs key = false → told (putRow xs key v ix) = cur) (h2 : ∀ r, r ∈ xs → r.key = key → xs[atK xs key]? = some r → told (putRow xs key v ix) = setM cur (told r)) :
    insI same gt setM (xs.map told) cur = (putL xs key v ix r0).map told := by
  have low : ∀ y, y ∈ (xs.take (atK xs key)).map told → same y = false ∧ gt y = false := by
    intro y hy
    obtain ⟨r, hr, rfl⟩ := List.mem_map.1 hy
    obtain ⟨i, a, b, c⟩ := mem_take_idx hr
    have hm := List.mem_of_mem_take hr
    have hlt : strLt r.key key = true := by rw [c]; exact atK_below a
    rw [hsame r hm, hgt r hm]
    exact ⟨decide_eq_false (strLt_ne hlt), strLt_asymm hlt⟩
  have high : ∀ y, y ∈ (xs.drop (if atIs xs key then atK xs key + 1 else atK xs key)).map told → same y = false ∧ gt y = true := by
    intro y hy
    obtain ⟨r, hr, rfl⟩ := List.mem_map.1 hy
    obtain ⟨i, a, b, c⟩ := mem_drop_idx hr
    have hm := List.mem_of_mem_drop hr
    have hlt : strLt key r.key = true := by rw [c]; exact atK_above hs a b
    rw [hsame r hm, hgt r hm]
    exact ⟨decide_eq_false (fun e => strLt_ne hlt e.symm), hlt⟩
  rw [putL_split, List.map_append, List.map_cons]
  cases hi : atIs xs key with
  | true =>
    rw [hi, if_pos rfl] at high
    rw [if_pos rfl]
    obtain ⟨a, b⟩ := atIs_iff.1 hi
    have hx : xs = xs.take (atK xs key) ++ xs[atK xs key] :: xs.drop (atK xs key + 1) := by
      rw [← List.drop_eq_getElem_cons a, List.take_append_drop]
    have hkey : xs[atK xs key].key = key := by rw [← keyAt_eq a]; exact b
    have hmem : xs[atK xs key] ∈ xs := List.getElem_mem a
    have e := insI_here (setM := setM) (c := cur) (x := told xs[atK xs key]) low (by rw [hsame _ hmem]; exact decide_eq_true hkey) (fun y hy => (high y hy).1)
    rw [h2 _ hmem hkey (List.getElem?_eq_getElem a), ← e]
    have hm : xs.map told = (xs.take (atK xs key)).map told ++ told xs[atK xs key] :: (xs.drop (atK xs key + 1)).map told := by
      rw [← List.map_cons, ← List.map_append, ← hx]
    rw [hm]
  | false =>
    rw [hi, if_neg (by decide)] at high
    rw [if_neg (by decide), h1 hi, ← insI_new low high]
    rw [← List.map_append, List.take_append_drop]
theorem any_at {xs : List (Row α)} {key : ByteArray} {told : Row α → α} (hs : Srt xs) (hsame : ∀ r, r ∈ xs → same (told r) = decide (r.key = key)) : (xs.map told).any same = atIs xs key := by
  cases hi : atIs xs key with
  | true =>
    obtain ⟨a, b⟩ := atIs_iff.1 hi
    rw [List.any_eq_true]
    refine ⟨told xs[atK xs key], List.mem_map.2 ⟨_, List.getElem_mem a, rfl⟩, ?_⟩
    rw [hsame _ (List.getElem_mem a), ← keyAt_eq a]
    exact decide_eq_true b
  | false =>
    rw [List.any_eq_false]
    intro y hy
    obtain ⟨r, hr, rfl⟩ := List.mem_map.1 hy
    rw [hsame r hr]
    intro e
    have hk := of_decide_eq_true e
    obtain ⟨i, hi', rfl⟩ := List.getElem_of_mem hr
    have hki : keyAt xs i = key := by rw [keyAt_eq hi']; exact hk
    by_cases h : i < atK xs key
    · have := atK_below h
      rw [hki, strLt_irrefl] at this; cases this
    · have := atK_above hs (key := key) (i := i) (by rw [if_neg (ifn hi)]; omega) hi'
      rw [hki, strLt_irrefl] at this; cases this
end
end Go.Sod
