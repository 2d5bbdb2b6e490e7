/-
  The document's roster: what lets go, and health, walked. Conditions: none.
-/
import Derived.Test.YtemcklmfpapmpaaGreatF3
namespace Go.Sod
set_option linter.unusedVariables false
set_option linter.unusedSimpArgs false
set_option maxRecDepth 10000
set_option maxHeartbeats 4000000

def pN (n : Int) (c : Nod) : Bool := !decide (c.node = n)
def pS (n : Int) (all : Bool) (id : ByteArray) (c : Svc) : Bool := decide (c.node = n) && (all || decide (c.id = id))
def pC (n : Int) (all : Bool) (id : ByteArray) (c : Chk) : Bool := decide (c.node = n) && (all || decide (c.service = id))
/-- the last index behind those that go -/
def lastA {α : Type} (xs : List α) (p : α → Bool) (last ix : Int) : Int := if xs.any p = true then max last ix else last
theorem lastA_nil {α : Type} {p : α → Bool} {last ix : Int} : lastA [] p last ix = last := rfl
theorem lastA_yes {α : Type} {xs : List α} {p : α → Bool} {last ix : Int} {k : Nat} (hk : k < xs.length) (hp : p xs[k] = true) : lastA (xs.take (k + 1)) p last ix = max (lastA (xs.take k) p last ix) ix := by
  unfold lastA
  rw [any_take_succ hk, hp, Bool.or_true, if_pos rfl]
  split <;> omega
theorem lastA_no {α : Type} {xs : List α} {p : α → Bool} {last ix : Int} {k : Nat} (hk : k < xs.length) (hp : p xs[k] = false) : lastA (xs.take (k + 1)) p last ix = lastA (xs.take k) p last ix := by
  unfold lastA
  rw [any_take_succ hk, hp, Bool.or_false]
theorem flt_len {α : Type} (xs : List α) (q : α → Bool) (k : Nat) : ((xs.take k).filter q).length ≤ k := Nat.le_trans (List.length_filter_le _ _) (by rw [List.length_take]; omega)
theorem flt_yes {α : Type} {xs : List α} {p : α → Bool} {k : Nat} (hk : k < xs.length) (hp : p xs[k] = true) : (xs.take (k + 1)).filter p = (xs.take k).filter p ++ [xs[k]] := by
  rw [List.take_add_one, List.getElem?_eq_getElem hk, List.filter_append]; simp [hp]
theorem flt_no {α : Type} {xs : List α} {p : α → Bool} {k : Nat} (hk : k < xs.length) (hp : p xs[k] = false) : (xs.take (k + 1)).filter p = (xs.take k).filter p := by
  rw [List.take_add_one, List.getElem?_eq_getElem hk, List.filter_append]; simp [hp]
def rfDropCs (W : Rrf) (n : Int) (all : Bool) (id : ByteArray) (ix : Int) : Rrf := { W with checks := W.checks.filter (fun c => !pC n all id c), l2 := lastA W.checks (pC n all id) W.l2 ix }
def rfDropSs (W : Rrf) (n : Int) (all : Bool) (id : ByteArray) (ix : Int) : Rrf := { W with services := W.services.filter (fun c => !pS n all id c), l1 := lastA W.services (pS n all id) W.l1 ix }
def rfDropNE (W : Rrf) (n : Int) : Int := if (!rfThere W n) = true then 4 else 0
def rfDropNW (W : Rrf) (n ix : Int) : Rrf := if (!rfThere W n) = true then W else rfDropCs (rfDropSs { W with nodes := W.nodes.filter (pN n), l0 := max W.l0 ix } n true ⟨#[]⟩ ix) n true ⟨#[]⟩ ix
def rfDropSE (W : Rrf) (n : Int) (id : ByteArray) : Int := if (!rfHas W n id) = true then 4 else 0
def rfDropSW (W : Rrf) (n : Int) (id : ByteArray) (ix : Int) : Rrf := if (!rfHas W n id) = true then W else rfDropCs (rfDropSs W n false id ix) n false id ix
def rfDropCE (W : Rrf) (n : Int) (id : ByteArray) : Int := if (!W.checks.any (sameC n id)) = true then 4 else 0
def rfDropCW (W : Rrf) (n : Int) (id : ByteArray) (ix : Int) : Rrf := if (!W.checks.any (sameC n id)) = true then W else { W with checks := W.checks.filter (fun c => !sameC n id c), l2 := max W.l2 ix }
theorem flt_any {α : Type} {xs : List α} {p : α → Bool} (h : xs.any p = false) : xs.filter (fun c => !p c) = xs := by
  rw [List.filter_eq_self]
  intro x hx
  rw [List.any_eq_false] at h
  have := h x hx
  simpa using this
def hIs (n : Int) (service : ByteArray) (c : Chk) : Bool := decide (c.node = n) && (decide (c.service = ⟨#[]⟩) || decide (c.service = service))
def rfHealth (W : Rrf) (n : Int) (service : ByteArray) : Int := W.checks.foldl (fun w c => if (hIs n service c && decide (w < c.status)) = true then c.status else w) 0

theorem rfdropcs_walk {wb : Nat} {h m : Hp} {W : Rrf} {n ix : Int} {all : Bool} {id : ByteArray} (ht : Rb m h wb W) : FM Go.Proofs.Tryz.prog 72 [.pointer (some ⟨wb, 0, none⟩), .int .i64 n, .bool all, .string id, .int .u64 ix] h m (fun v h' m' => v = .tuple ⟨[]⟩ ∧ Rb m' h' wb (rfDropCs W n all id ix)) := by
  refine FS.enter Go.Proofs.Tryz.func72 rfl rfl fun w0 => ?_
  obtain ⟨nv, sv, cv, rfl, hn, hs, hc⟩ := ht
  obtain ⟨nA, nc, rfl⟩ := hn.form
  obtain ⟨sA, sc, rfl⟩ := hs.form
  obtain ⟨cA, cc, rfl⟩ := hc.form
  unfold rfV
  refine .seq (.text (.as_ rfl rfl (.done (.thenN ?_))))
  refine .seq (.seq (.text (.as_ rfl rfl (.done (.thenN ?_)))))
  refine .block (?_)
  refine J.addE ?_
  refine J.loop (ι := Nat × Value × Hp) (fun i => i.1 ≤ W.checks.length ∧ SlT i.2.2 h i.2.1 7 33 RChk ((W.checks.take i.1).filter fun c => !pC n all id c)) (fun i => [(0, .pointer (some ⟨wb, 0, none⟩)), (1, .int .i64 n), (2, .bool all), (3, .string id), (4, .int .u64 ix), (10, i.2.1), (11, .int .i64 (i.1 : Int))]) (fun _ => h) (fun i => [i.2.2, one wb (.cells ⟨[.int .i64 W.most, (.slice nA W.nodes.length nc), (.slice sA W.services.length sc), (.slice cA W.checks.length cc), .int .u64 (W.l0), .int .u64 (W.l1), .int .u64 (lastA (W.checks.take i.1) (pC n all id) W.l2 ix)]⟩ 68 (0, 0))]) (fun i => W.checks.length - i.1) (0, .slice none 0 0, Hp.emp) ⟨Nat.zero_le _, SlT.nil _ _ _ _⟩ (.cons rfl (.cons rfl (.cons rfl (.cons rfl (.cons rfl (.cons rfl (.cons rfl (.nil _)))))))) rfl rfl ?_
  rintro ⟨k, lv, ml⟩ ⟨hk0, hl⟩
  dsimp only at hk0 hl ⊢
  have hln := flt_len W.checks (fun c => !pC n all id c) k
  have hmx := hc.len
  unfold maxL at hmx
  refine .seq (.seq (.text (.mv rfl rfl (.mv rfl rfl (.nilOk rfl rfl (.fa rfl rfl (.ld rfl rfl rfl rfl (.len hc rfl rfl rfl (.cmp rfl rfl rfl rfl (.done (.thenN ?_)))))))))))
  refine .cond rfl (fun hb2 => ?_) (fun hb2 => ?_)
  ·
    have hk : k < W.checks.length := by simp [cmpI] at hb2; omega
    refine .skip (.thenN ?_)
    refine .seq (.block (.seq (.text (.mv rfl rfl (.nilOk rfl rfl (.fa rfl rfl (.ld rfl rfl rfl rfl (.mv rfl rfl (.ix (i := k) hc rfl rfl rfl hk rfl (.faE rfl (hc.ne (by omega)) rfl (.ldG (.int .i64 W.checks[k].node) hc hk rfl (fun vs e => by obtain rfl := e; rfl) rfl rfl (.mv rfl rfl (.cmp rfl rfl rfl rfl (.mv rfl rfl (.and (d := 45) (g := 31) _ _ (take_drop 14) rfl rfl (fun hb4_11 => .guard rfl rfl rfl rfl (.mv rfl rfl (.guard rfl rfl rfl rfl (.mv rfl rfl (.or (d := 44) (g := 33) _ _ (take_drop 11) rfl rfl (fun hb4_13 => .guard rfl rfl rfl rfl (.mv rfl rfl (.guard rfl rfl rfl rfl (.nilOk rfl rfl (.guard rfl rfl rfl rfl (.fa rfl rfl (.guard rfl rfl rfl rfl (.ld rfl rfl rfl rfl (.guard rfl rfl rfl rfl (.mv rfl rfl (.guard rfl rfl rfl rfl (.ix (i := k) hc rfl rfl rfl hk rfl (.guard rfl rfl rfl rfl (.faE rfl (hc.ne (by omega)) rfl (.guard rfl rfl rfl rfl (.ldG (.string W.checks[k].service) hc hk rfl (fun vs e => by obtain rfl := e; rfl) rfl rfl (.guard rfl rfl rfl rfl (.mv rfl rfl (.guard rfl rfl rfl rfl (.cmpS rfl rfl rfl rfl (.guard rfl rfl rfl rfl (.pick rfl rfl rfl rfl ((.done (.thenN (.midB rfl)))))))))))))))))))))))))) (.guardNo rfl rfl rfl rfl rfl rfl (.guardNo rfl rfl rfl rfl rfl rfl (.guardNo rfl rfl rfl rfl rfl rfl (.guardNo rfl rfl rfl rfl rfl rfl (.guardNo rfl rfl rfl rfl rfl rfl (.guardNo rfl rfl rfl rfl rfl rfl (.guardNo rfl rfl rfl rfl rfl rfl (.guardNo rfl rfl rfl rfl rfl rfl (.guardNo rfl rfl rfl rfl rfl rfl (.guardNo rfl rfl rfl rfl rfl rfl (.guard rfl rfl rfl rfl (.pick rfl rfl rfl rfl ((.done (.thenN (.midB rfl)))))))))))))))) (.pick rfl rfl rfl rfl ((.done (.thenN (.midB rfl)))))))))) (.guardNo rfl rfl rfl rfl rfl rfl (.guardNo rfl rfl rfl rfl rfl rfl (.guardU rfl rfl rfl rfl rfl (.guardU rfl rfl rfl rfl rfl (.guardU rfl rfl rfl rfl rfl (.guardU rfl rfl rfl rfl rfl (.guardU rfl rfl rfl rfl rfl (.guardU rfl rfl rfl rfl rfl (.guardU rfl rfl rfl rfl rfl (.guardU rfl rfl rfl rfl rfl (.guardU rfl rfl rfl rfl rfl (.guardU rfl rfl rfl rfl rfl (.guardNo rfl rfl rfl rfl rfl rfl (.pick rfl rfl rfl rfl ((.done (.thenN (.midB rfl)))))))))))))))))) (.done (.thenN ?_)))))))))))))))))
    refine .cond rfl (fun hb4 => ?_) (fun hb4 => ?_)
    ·
      replace hb4 : pC n all id W.checks[k] = true := hb4
      refine .text (.mv rfl rfl (.mv rfl rfl (?_)))
      refine .callM rfl rfl (raise2_walk (a := .int .i64 W.most) (b := (.slice nA W.nodes.length nc)) (c := (.slice sA W.services.length sc)) (d := (.slice cA W.checks.length cc)) (l0 := W.l0) (l1 := W.l1) (l2 := lastA (W.checks.take k) (pC n all id) W.l2 ix)) rfl rfl fun u48 h48 m48 hl48 hu48 => ?_
      obtain ⟨rfl, rfl, rfl⟩ := hu48
      refine .done (.blkN (.thenN ?_))
      refine .text (.mv rfl rfl (.inc rfl rfl (by omega) rfl (.as_ rfl rfl (.done (.thenN ?_)))))
      rw [← lastA_yes (p := pC n all id) (last := W.l2) (ix := ix) hk hb4]
      exact J.again (k + 1, lv, ml) (by dsimp only; omega) ⟨hk, by dsimp only; rw [flt_no hk (by rw [hb4]; rfl)]; exact hl⟩ (.cons rfl (.cons rfl (.cons rfl (.cons rfl (.cons rfl (.cons rfl (.cons rfl (.nil _)))))))) rfl rfl
    ·
      replace hb4 : pC n all id W.checks[k] = false := hb4
      refine .text (.mv rfl rfl (.mv rfl rfl (.nilOk rfl rfl (.fa rfl rfl (.ld rfl rfl rfl rfl (.mv rfl rfl (.ix (i := k) hc rfl rfl rfl hk rfl (.ldE hc hk rfl rfl rfl fun vs hvs => ?_))))))))
      obtain rfl := hvs
      refine .bs [_, _, _, _, _, _, _] rfl rfl rfl rfl (by decide) rfl rfl rfl fun b57 => ?_
      refine .app1 (z := W.checks[k]) rfl hl rfl rfl rfl rfl rfl (by unfold maxL; omega) rfl rfl fun v58 m58 hm58 => .as_ rfl rfl (.done (.blkN (.thenN ?_)))
      refine .text (.mv rfl rfl (.inc rfl rfl (by omega) rfl (.as_ rfl rfl (.done (.thenN ?_)))))
      rw [← lastA_no (p := pC n all id) (last := W.l2) (ix := ix) hk hb4]
      exact J.dropF 1 (J.again (k + 1, v58, m58) (by dsimp only; omega) ⟨hk, by dsimp only; rw [flt_yes hk (by rw [hb4]; rfl)]; exact hm58⟩ (.cons rfl (.cons rfl (.cons rfl (.cons rfl (.cons rfl (.cons rfl (.cons rfl (.nil _)))))))) rfl rfl)
  ·
    have hk : k = W.checks.length := by simp [cmpI] at hb2; omega
    subst hk
    rw [List.take_length] at hl
    rw [List.take_length]
    refine J.frz hl RChk.mono fun h1 hl1 hs1 => ?_
    obtain ⟨lA, lc, rfl⟩ := hs1.form
    refine .exit (.thenE (.thenE (.blkHit (.thenN ?_))))
    refine .text (.mv rfl rfl (.mv rfl rfl (.nilOk rfl rfl (.fa rfl rfl (.stS rfl rfl rfl rfl (.done ?_))))))
    exact J.retTmp (vs := []) rfl (List.Sublist.refl _) ⟨_, rfl, rfl, _, _, _, rfl, hn.mono RNod.mono hl1, hs.mono RSvc.mono hl1, hs1⟩

theorem rfdropss_walk {wb : Nat} {h m : Hp} {W : Rrf} {n ix : Int} {all : Bool} {id : ByteArray} (ht : Rb m h wb W) : FM Go.Proofs.Tryz.prog 71 [.pointer (some ⟨wb, 0, none⟩), .int .i64 n, .bool all, .string id, .int .u64 ix] h m (fun v h' m' => v = .tuple ⟨[]⟩ ∧ Rb m' h' wb (rfDropSs W n all id ix)) := by
  refine FS.enter Go.Proofs.Tryz.func71 rfl rfl fun w0 => ?_
  obtain ⟨nv, sv, cv, rfl, hn, hs, hc⟩ := ht
  obtain ⟨nA, nc, rfl⟩ := hn.form
  obtain ⟨sA, sc, rfl⟩ := hs.form
  obtain ⟨cA, cc, rfl⟩ := hc.form
  unfold rfV
  refine .seq (.text (.as_ rfl rfl (.done (.thenN ?_))))
  refine .seq (.seq (.text (.as_ rfl rfl (.done (.thenN ?_)))))
  refine .block (?_)
  refine J.addE ?_
  refine J.loop (ι := Nat × Value × Hp) (fun i => i.1 ≤ W.services.length ∧ SlT i.2.2 h i.2.1 7 31 RSvc ((W.services.take i.1).filter fun c => !pS n all id c)) (fun i => [(0, .pointer (some ⟨wb, 0, none⟩)), (1, .int .i64 n), (2, .bool all), (3, .string id), (4, .int .u64 ix), (10, i.2.1), (11, .int .i64 (i.1 : Int))]) (fun _ => h) (fun i => [i.2.2, one wb (.cells ⟨[.int .i64 W.most, (.slice nA W.nodes.length nc), (.slice sA W.services.length sc), (.slice cA W.checks.length cc), .int .u64 (W.l0), .int .u64 (lastA (W.services.take i.1) (pS n all id) W.l1 ix), .int .u64 (W.l2)]⟩ 68 (0, 0))]) (fun i => W.services.length - i.1) (0, .slice none 0 0, Hp.emp) ⟨Nat.zero_le _, SlT.nil _ _ _ _⟩ (.cons rfl (.cons rfl (.cons rfl (.cons rfl (.cons rfl (.cons rfl (.cons rfl (.nil _)))))))) rfl rfl ?_
  rintro ⟨k, lv, ml⟩ ⟨hk0, hl⟩
  dsimp only at hk0 hl ⊢
  have hln := flt_len W.services (fun c => !pS n all id c) k
  have hmx := hs.len
  unfold maxL at hmx
  refine .seq (.seq (.text (.mv rfl rfl (.mv rfl rfl (.nilOk rfl rfl (.fa rfl rfl (.ld rfl rfl rfl rfl (.len hs rfl rfl rfl (.cmp rfl rfl rfl rfl (.done (.thenN ?_)))))))))))
  refine .cond rfl (fun hb2 => ?_) (fun hb2 => ?_)
  ·
    have hk : k < W.services.length := by simp [cmpI] at hb2; omega
    refine .skip (.thenN ?_)
    refine .seq (.block (.seq (.text (.mv rfl rfl (.nilOk rfl rfl (.fa rfl rfl (.ld rfl rfl rfl rfl (.mv rfl rfl (.ix (i := k) hs rfl rfl rfl hk rfl (.faE rfl (hs.ne (by omega)) rfl (.ldG (.int .i64 W.services[k].node) hs hk rfl (fun vs e => by obtain ⟨tv, rfl, _⟩ := e; rfl) rfl rfl (.mv rfl rfl (.cmp rfl rfl rfl rfl (.mv rfl rfl (.and (d := 45) (g := 31) _ _ (take_drop 14) rfl rfl (fun hb4_11 => .guard rfl rfl rfl rfl (.mv rfl rfl (.guard rfl rfl rfl rfl (.mv rfl rfl (.or (d := 44) (g := 33) _ _ (take_drop 11) rfl rfl (fun hb4_13 => .guard rfl rfl rfl rfl (.mv rfl rfl (.guard rfl rfl rfl rfl (.nilOk rfl rfl (.guard rfl rfl rfl rfl (.fa rfl rfl (.guard rfl rfl rfl rfl (.ld rfl rfl rfl rfl (.guard rfl rfl rfl rfl (.mv rfl rfl (.guard rfl rfl rfl rfl (.ix (i := k) hs rfl rfl rfl hk rfl (.guard rfl rfl rfl rfl (.faE rfl (hs.ne (by omega)) rfl (.guard rfl rfl rfl rfl (.ldG (.string W.services[k].id) hs hk rfl (fun vs e => by obtain ⟨tv, rfl, _⟩ := e; rfl) rfl rfl (.guard rfl rfl rfl rfl (.mv rfl rfl (.guard rfl rfl rfl rfl (.cmpS rfl rfl rfl rfl (.guard rfl rfl rfl rfl (.pick rfl rfl rfl rfl ((.done (.thenN (.midB rfl)))))))))))))))))))))))))) (.guardNo rfl rfl rfl rfl rfl rfl (.guardNo rfl rfl rfl rfl rfl rfl (.guardNo rfl rfl rfl rfl rfl rfl (.guardNo rfl rfl rfl rfl rfl rfl (.guardNo rfl rfl rfl rfl rfl rfl (.guardNo rfl rfl rfl rfl rfl rfl (.guardNo rfl rfl rfl rfl rfl rfl (.guardNo rfl rfl rfl rfl rfl rfl (.guardNo rfl rfl rfl rfl rfl rfl (.guardNo rfl rfl rfl rfl rfl rfl (.guard rfl rfl rfl rfl (.pick rfl rfl rfl rfl ((.done (.thenN (.midB rfl)))))))))))))))) (.pick rfl rfl rfl rfl ((.done (.thenN (.midB rfl)))))))))) (.guardNo rfl rfl rfl rfl rfl rfl (.guardNo rfl rfl rfl rfl rfl rfl (.guardU rfl rfl rfl rfl rfl (.guardU rfl rfl rfl rfl rfl (.guardU rfl rfl rfl rfl rfl (.guardU rfl rfl rfl rfl rfl (.guardU rfl rfl rfl rfl rfl (.guardU rfl rfl rfl rfl rfl (.guardU rfl rfl rfl rfl rfl (.guardU rfl rfl rfl rfl rfl (.guardU rfl rfl rfl rfl rfl (.guardU rfl rfl rfl rfl rfl (.guardNo rfl rfl rfl rfl rfl rfl (.pick rfl rfl rfl rfl ((.done (.thenN (.midB rfl)))))))))))))))))) (.done (.thenN ?_)))))))))))))))))
    refine .cond rfl (fun hb4 => ?_) (fun hb4 => ?_)
    ·
      replace hb4 : pS n all id W.services[k] = true := hb4
      refine .text (.mv rfl rfl (.mv rfl rfl (?_)))
      refine .callM rfl rfl (raise1_walk (a := .int .i64 W.most) (b := (.slice nA W.nodes.length nc)) (c := (.slice sA W.services.length sc)) (d := (.slice cA W.checks.length cc)) (l0 := W.l0) (l1 := lastA (W.services.take k) (pS n all id) W.l1 ix) (l2 := W.l2)) rfl rfl fun u48 h48 m48 hl48 hu48 => ?_
      obtain ⟨rfl, rfl, rfl⟩ := hu48
      refine .done (.blkN (.thenN ?_))
      refine .text (.mv rfl rfl (.inc rfl rfl (by omega) rfl (.as_ rfl rfl (.done (.thenN ?_)))))
      rw [← lastA_yes (p := pS n all id) (last := W.l1) (ix := ix) hk hb4]
      exact J.again (k + 1, lv, ml) (by dsimp only; omega) ⟨hk, by dsimp only; rw [flt_no hk (by rw [hb4]; rfl)]; exact hl⟩ (.cons rfl (.cons rfl (.cons rfl (.cons rfl (.cons rfl (.cons rfl (.cons rfl (.nil _)))))))) rfl rfl
    ·
      replace hb4 : pS n all id W.services[k] = false := hb4
      refine .text (.mv rfl rfl (.mv rfl rfl (.nilOk rfl rfl (.fa rfl rfl (.ld rfl rfl rfl rfl (.mv rfl rfl (.ix (i := k) hs rfl rfl rfl hk rfl (.ldE hs hk rfl rfl rfl fun vs hvs => ?_))))))))
      obtain ⟨tv, rfl, htv⟩ := hvs
      obtain ⟨tA, tc, rfl⟩ := htv.form
      refine .bs [_, _, _, _, _, _, _] rfl rfl rfl rfl (by decide) rfl rfl rfl fun b57 => ?_
      refine .app1 (z := W.services[k]) rfl hl rfl rfl rfl rfl ⟨_, rfl, htv⟩ (by unfold maxL; omega) rfl rfl fun v58 m58 hm58 => .as_ rfl rfl (.done (.blkN (.thenN ?_)))
      refine .text (.mv rfl rfl (.inc rfl rfl (by omega) rfl (.as_ rfl rfl (.done (.thenN ?_)))))
      rw [← lastA_no (p := pS n all id) (last := W.l1) (ix := ix) hk hb4]
      exact J.dropF 1 (J.again (k + 1, v58, m58) (by dsimp only; omega) ⟨hk, by dsimp only; rw [flt_yes hk (by rw [hb4]; rfl)]; exact hm58⟩ (.cons rfl (.cons rfl (.cons rfl (.cons rfl (.cons rfl (.cons rfl (.cons rfl (.nil _)))))))) rfl rfl)
  ·
    have hk : k = W.services.length := by simp [cmpI] at hb2; omega
    subst hk
    rw [List.take_length] at hl
    rw [List.take_length]
    refine J.frz hl RSvc.mono fun h1 hl1 hs1 => ?_
    obtain ⟨lA, lc, rfl⟩ := hs1.form
    refine .exit (.thenE (.thenE (.blkHit (.thenN ?_))))
    refine .text (.mv rfl rfl (.mv rfl rfl (.nilOk rfl rfl (.fa rfl rfl (.stS rfl rfl rfl rfl (.done ?_))))))
    exact J.retTmp (vs := []) rfl (List.Sublist.refl _) ⟨_, rfl, rfl, _, _, _, rfl, hn.mono RNod.mono hl1, hs1, hc.mono RChk.mono hl1⟩

theorem rfdropnode_walk {wb : Nat} {h m : Hp} {W : Rrf} {n ix : Int} (ht : Rb m h wb W) : FM Go.Proofs.Tryz.prog 28 [.pointer (some ⟨wb, 0, none⟩), .int .i64 n, .int .u64 ix] h m (fun v h' m' => v = .int .i64 (rfDropNE W n) ∧ Rb m' h' wb (rfDropNW W n ix)) := by
  refine FS.enter Go.Proofs.Tryz.func28 rfl rfl fun w0 => ?_
  obtain ⟨nv, sv, cv, rfl, hn, hs, hc⟩ := ht
  obtain ⟨nA, nc, rfl⟩ := hn.form
  obtain ⟨sA, sc, rfl⟩ := hs.form
  obtain ⟨cA, cc, rfl⟩ := hc.form
  unfold rfV
  refine .seq (.text (.as_ rfl rfl (.done (.thenN ?_))))
  refine .seq (.seq (.text (.mv rfl rfl (.mv rfl rfl (?_)))))
  refine .callR rfl rfl (rfthere_walk (W := W) hn hs) rfl rfl (.not rfl rfl (.done (.thenN ?_)))
  refine .cond rfl (fun hb1 => ?_) (fun hb1 => ?_)
  ·
    refine .seq (.text (.as_ rfl rfl (.done (.thenN ?_))))
    refine .ret (.thenR ?_)
    exact J.retTmp rfl (List.Sublist.refl _) ⟨_, rfl, by rw [rfDropNE, if_pos hb1]; rfl, by rw [rfDropNW, if_pos hb1]; exact ⟨_, _, _, rfl, hn, hs, hc⟩⟩
  ·
    refine .skip (.thenN ?_)
    refine .seq (.text (.as_ rfl rfl (.done (.thenN ?_))))
    refine .seq (.seq (.text (.as_ rfl rfl (.done (.thenN ?_)))))
    refine .block (?_)
    refine J.addE ?_
    refine J.loop (ι := Nat × Value × Hp) (fun i => i.1 ≤ W.nodes.length ∧ SlT i.2.2 h i.2.1 4 49 RNod ((W.nodes.take i.1).filter (pN n))) (fun i => [(0, .pointer (some ⟨wb, 0, none⟩)), (1, .int .i64 n), (2, .int .u64 ix), (7, i.2.1), (8, .int .i64 (i.1 : Int))]) (fun _ => h) (fun i => [i.2.2, one wb (.cells ⟨[.int .i64 W.most, (.slice nA W.nodes.length nc), (.slice sA W.services.length sc), (.slice cA W.checks.length cc), .int .u64 (W.l0), .int .u64 (W.l1), .int .u64 (W.l2)]⟩ 68 (0, 0))]) (fun i => W.nodes.length - i.1) (0, .slice none 0 0, Hp.emp) ⟨Nat.zero_le _, SlT.nil _ _ _ _⟩ (.cons rfl (.cons rfl (.cons rfl (.cons rfl (.cons rfl (.nil _)))))) rfl rfl ?_
    rintro ⟨k, lv, ml⟩ ⟨hk0, hl⟩
    dsimp only at hk0 hl ⊢
    have hln := flt_len W.nodes (pN n) k
    have hmx := hn.len
    unfold maxL at hmx
    refine .seq (.seq (.text (.mv rfl rfl (.mv rfl rfl (.nilOk rfl rfl (.fa rfl rfl (.ld rfl rfl rfl rfl (.len hn rfl rfl rfl (.cmp rfl rfl rfl rfl (.done (.thenN ?_)))))))))))
    refine .cond rfl (fun hb5 => ?_) (fun hb5 => ?_)
    ·
      have hk : k < W.nodes.length := by simp [cmpI] at hb5; omega
      refine .skip (.thenN ?_)
      refine .seq (.block (.seq (.text (.mv rfl rfl (.nilOk rfl rfl (.fa rfl rfl (.ld rfl rfl rfl rfl (.mv rfl rfl (.ix (i := k) hn rfl rfl rfl hk rfl (.faE rfl (hn.ne (by omega)) rfl (.ldG (.int .i64 W.nodes[k].node) hn hk rfl (fun vs e => by obtain rfl := e; rfl) rfl rfl (.mv rfl rfl (.cmp rfl rfl rfl rfl (.done (.thenN ?_)))))))))))))))
      refine .cond rfl (fun hb7 => ?_) (fun hb7 => ?_)
      ·
        replace hb7 : pN n W.nodes[k] = true := hb7
        refine .text (.mv rfl rfl (.mv rfl rfl (.nilOk rfl rfl (.fa rfl rfl (.ld rfl rfl rfl rfl (.mv rfl rfl (.ix (i := k) hn rfl rfl rfl hk rfl (.ldE hn hk rfl rfl rfl fun vs hvs => ?_))))))))
        obtain rfl := hvs
        refine .bs [_, _, _, _] rfl rfl rfl rfl (by decide) rfl rfl rfl fun b40 => ?_
        refine .app1 (z := W.nodes[k]) rfl hl rfl rfl rfl rfl rfl (by unfold maxL; omega) rfl rfl fun v41 m41 hm41 => .as_ rfl rfl (.done (.blkN (.thenN ?_)))
        refine .text (.mv rfl rfl (.inc rfl rfl (by omega) rfl (.as_ rfl rfl (.done (.thenN ?_)))))
        exact J.dropF 1 (J.again (k + 1, v41, m41) (by dsimp only; omega) ⟨hk, by dsimp only; rw [flt_yes hk hb7]; exact hm41⟩ (.cons rfl (.cons rfl (.cons rfl (.cons rfl (.cons rfl (.nil _)))))) rfl rfl)
      ·
        replace hb7 : pN n W.nodes[k] = false := hb7
        refine .skip (.blkN (.thenN ?_))
        refine .text (.mv rfl rfl (.inc rfl rfl (by omega) rfl (.as_ rfl rfl (.done (.thenN ?_)))))
        exact J.again (k + 1, lv, ml) (by dsimp only; omega) ⟨hk, by dsimp only; rw [flt_no hk hb7]; exact hl⟩ (.cons rfl (.cons rfl (.cons rfl (.cons rfl (.cons rfl (.nil _)))))) rfl rfl
    ·
      have hk : k = W.nodes.length := by simp [cmpI] at hb5; omega
      subst hk
      rw [List.take_length] at hl
      refine J.frz hl RNod.mono fun h1 hl1 hs1 => ?_
      obtain ⟨lA, lc, rfl⟩ := hs1.form
      have hs := hs.mono RSvc.mono hl1
      have hc := hc.mono RChk.mono hl1
      refine .exit (.thenE (.thenE (.blkHit (.thenN ?_))))
      refine .seq (.text (.mv rfl rfl (.mv rfl rfl (.nilOk rfl rfl (.fa rfl rfl (.stS rfl rfl rfl rfl (.done (.thenN ?_))))))))
      refine .seq (.text (.mv rfl rfl (.mv rfl rfl (?_))))
      refine .callM rfl rfl (raise0_walk (a := .int .i64 W.most) (b := (.slice lA (W.nodes.filter (pN n)).length lc)) (c := (.slice sA W.services.length sc)) (d := (.slice cA W.checks.length cc)) (l0 := W.l0) (l1 := W.l1) (l2 := W.l2)) rfl rfl fun u48 h48 m48 hl48 hu48 => ?_
      obtain ⟨rfl, rfl, rfl⟩ := hu48
      refine .done (.thenN ?_)
      refine .seq (.text (.mv rfl rfl (.mv rfl rfl (.mv rfl rfl (?_)))))
      refine .callM rfl rfl (rfdropss_walk (m := one wb (.cells ⟨[.int .i64 W.most, (.slice lA (W.nodes.filter (pN n)).length lc), (.slice sA W.services.length sc), (.slice cA W.checks.length cc), .int .u64 (max W.l0 ix), .int .u64 (W.l1), .int .u64 (W.l2)]⟩ 68 (0, 0))) (W := ({ W with nodes := W.nodes.filter (pN n), l0 := max W.l0 ix } : Rrf)) ⟨_, _, _, rfl, hs1, hs, hc⟩) rfl rfl fun u52 h52 m52 hl52 hu52 => ?_
      obtain ⟨rfl, hW2⟩ := hu52
      refine .done (.thenN ?_)
      refine .seq (.text (.mv rfl rfl (.mv rfl rfl (.mv rfl rfl (?_)))))
      refine .callM rfl rfl (rfdropcs_walk hW2) rfl rfl fun u56 h56 m56 hl56 hu56 => ?_
      obtain ⟨rfl, hW3⟩ := hu56
      refine .done (.thenN ?_)
      refine .seq (.text (.as_ rfl rfl (.done (.thenN ?_))))
      refine .ret ?_
      exact J.retTmp rfl (List.Sublist.refl _) ⟨_, rfl, by rw [rfDropNE, if_neg (ifn hb1)]; rfl, by rw [rfDropNW, if_neg (ifn hb1)]; exact hW3⟩

theorem rfdropsvc_walk {wb : Nat} {h m : Hp} {W : Rrf} {n ix : Int} {id : ByteArray} (ht : Rb m h wb W) : FM Go.Proofs.Tryz.prog 32 [.pointer (some ⟨wb, 0, none⟩), .int .i64 n, .string id, .int .u64 ix] h m (fun v h' m' => v = .int .i64 (rfDropSE W n id) ∧ Rb m' h' wb (rfDropSW W n id ix)) := by
  refine FS.enter Go.Proofs.Tryz.func32 rfl rfl fun w0 => ?_
  obtain ⟨nv, sv, cv, rfl, hn, hs, hc⟩ := ht
  obtain ⟨nA, nc, rfl⟩ := hn.form
  obtain ⟨sA, sc, rfl⟩ := hs.form
  obtain ⟨cA, cc, rfl⟩ := hc.form
  unfold rfV
  refine .seq (.text (.as_ rfl rfl (.done (.thenN ?_))))
  refine .seq (.seq (.text (.mv rfl rfl (.mv rfl rfl (.mv rfl rfl (?_))))))
  refine .callR rfl rfl (rfhas_walk (W := W) hn hs) rfl rfl (.not rfl rfl (.done (.thenN ?_)))
  refine .cond rfl (fun hb1 => ?_) (fun hb1 => ?_)
  ·
    refine .seq (.text (.as_ rfl rfl (.done (.thenN ?_))))
    refine .ret (.thenR ?_)
    exact J.retTmp rfl (List.Sublist.refl _) ⟨_, rfl, by rw [rfDropSE, if_pos hb1]; rfl, by rw [rfDropSW, if_pos hb1]; exact ⟨_, _, _, rfl, hn, hs, hc⟩⟩
  ·
    refine .skip (.thenN ?_)
    refine .seq (.text (.mv rfl rfl (.mv rfl rfl (.mv rfl rfl (.mv rfl rfl (?_))))))
    refine .callM rfl rfl (rfdropss_walk (m := one wb (.cells ⟨[.int .i64 W.most, (.slice nA W.nodes.length nc), (.slice sA W.services.length sc), (.slice cA W.checks.length cc), .int .u64 (W.l0), .int .u64 (W.l1), .int .u64 (W.l2)]⟩ 68 (0, 0))) (W := W) ⟨_, _, _, rfl, hn, hs, hc⟩) rfl rfl fun u18 h18 m18 hl18 hu18 => ?_
    obtain ⟨rfl, hW2⟩ := hu18
    refine .done (.thenN ?_)
    refine .seq (.text (.mv rfl rfl (.mv rfl rfl (.mv rfl rfl (.mv rfl rfl (?_))))))
    refine .callM rfl rfl (rfdropcs_walk hW2) rfl rfl fun u23 h23 m23 hl23 hu23 => ?_
    obtain ⟨rfl, hW3⟩ := hu23
    refine .done (.thenN ?_)
    refine .seq (.text (.as_ rfl rfl (.done (.thenN ?_))))
    refine .ret ?_
    exact J.retTmp rfl (List.Sublist.refl _) ⟨_, rfl, by rw [rfDropSE, if_neg (ifn hb1)]; rfl, by rw [rfDropSW, if_neg (ifn hb1)]; exact hW3⟩

theorem rfdropchk_walk {wb : Nat} {h m : Hp} {W : Rrf} {n ix : Int} {id : ByteArray} (ht : Rb m h wb W) : FM Go.Proofs.Tryz.prog 34 [.pointer (some ⟨wb, 0, none⟩), .int .i64 n, .string id, .int .u64 ix] h m (fun v h' m' => v = .int .i64 (rfDropCE W n id) ∧ Rb m' h' wb (rfDropCW W n id ix)) := by
  refine FS.enter Go.Proofs.Tryz.func34 rfl rfl fun w0 => ?_
  obtain ⟨nv, sv, cv, rfl, hn, hs, hc⟩ := ht
  obtain ⟨nA, nc, rfl⟩ := hn.form
  obtain ⟨sA, sc, rfl⟩ := hs.form
  obtain ⟨cA, cc, rfl⟩ := hc.form
  unfold rfV
  refine .seq (.text (.as_ rfl rfl (.done (.thenN ?_))))
  refine .seq (.text (.as_ rfl rfl (.done (.thenN ?_))))
  refine .seq (.text (.as_ rfl rfl (.done (.thenN ?_))))
  refine .seq (.seq (.text (.as_ rfl rfl (.done (.thenN ?_)))))
  refine .block (?_)
  refine J.addE ?_
  refine J.loop (ι := Nat × Value × Hp) (fun i => i.1 ≤ W.checks.length ∧ SlT i.2.2 h i.2.1 7 33 RChk ((W.checks.take i.1).filter fun c => !sameC n id c)) (fun i => [(0, .pointer (some ⟨wb, 0, none⟩)), (1, .int .i64 n), (2, .string id), (3, .int .u64 ix), (9, i.2.1), (10, .bool ((W.checks.take i.1).any (sameC n id))), (11, .int .i64 (i.1 : Int))]) (fun _ => h) (fun i => [i.2.2, one wb (.cells ⟨[.int .i64 W.most, (.slice nA W.nodes.length nc), (.slice sA W.services.length sc), (.slice cA W.checks.length cc), .int .u64 (W.l0), .int .u64 (W.l1), .int .u64 (W.l2)]⟩ 68 (0, 0))]) (fun i => W.checks.length - i.1) (0, .slice none 0 0, Hp.emp) ⟨Nat.zero_le _, SlT.nil _ _ _ _⟩ (.cons rfl (.cons rfl (.cons rfl (.cons rfl (.cons rfl (.cons rfl (.cons rfl (.nil _)))))))) rfl rfl ?_
  rintro ⟨k, lv, ml⟩ ⟨hk0, hl⟩
  dsimp only at hk0 hl ⊢
  have hln := flt_len W.checks (fun c => !sameC n id c) k
  have hmx := hc.len
  unfold maxL at hmx
  refine .seq (.seq (.text (.mv rfl rfl (.mv rfl rfl (.nilOk rfl rfl (.fa rfl rfl (.ld rfl rfl rfl rfl (.len hc rfl rfl rfl (.cmp rfl rfl rfl rfl (.done (.thenN ?_)))))))))))
  refine .cond rfl (fun hb4 => ?_) (fun hb4 => ?_)
  ·
    have hk : k < W.checks.length := by simp [cmpI] at hb4; omega
    refine .skip (.thenN ?_)
    refine .seq (.block (.seq (.text (.mv rfl rfl (.nilOk rfl rfl (.fa rfl rfl (.ld rfl rfl rfl rfl (.mv rfl rfl (.ix (i := k) hc rfl rfl rfl hk rfl (.faE rfl (hc.ne (by omega)) rfl (.ldG (.int .i64 W.checks[k].node) hc hk rfl (fun vs e => by obtain rfl := e; rfl) rfl rfl (.mv rfl rfl (.cmp rfl rfl rfl rfl (.mv rfl rfl (.and (d := 42) (g := 31) _ _ (take_drop 11) rfl rfl (fun hb6_11 => .guard rfl rfl rfl rfl (.mv rfl rfl (.guard rfl rfl rfl rfl (.nilOk rfl rfl (.guard rfl rfl rfl rfl (.fa rfl rfl (.guard rfl rfl rfl rfl (.ld rfl rfl rfl rfl (.guard rfl rfl rfl rfl (.mv rfl rfl (.guard rfl rfl rfl rfl (.ix (i := k) hc rfl rfl rfl hk rfl (.guard rfl rfl rfl rfl (.faE rfl (hc.ne (by omega)) rfl (.guard rfl rfl rfl rfl (.ldG (.string W.checks[k].id) hc hk rfl (fun vs e => by obtain rfl := e; rfl) rfl rfl (.guard rfl rfl rfl rfl (.mv rfl rfl (.guard rfl rfl rfl rfl (.cmpS rfl rfl rfl rfl (.pick rfl rfl rfl rfl ((.done (.thenN (.midB rfl))))))))))))))))))))))))) (.guardNo rfl rfl rfl rfl rfl rfl (.guardNo rfl rfl rfl rfl rfl rfl (.guardNo rfl rfl rfl rfl rfl rfl (.guardNo rfl rfl rfl rfl rfl rfl (.guardNo rfl rfl rfl rfl rfl rfl (.guardNo rfl rfl rfl rfl rfl rfl (.guardNo rfl rfl rfl rfl rfl rfl (.guardNo rfl rfl rfl rfl rfl rfl (.guardNo rfl rfl rfl rfl rfl rfl (.guardNo rfl rfl rfl rfl rfl rfl (.pick rfl rfl rfl rfl ((.done (.thenN (.midB rfl))))))))))))))) (.done (.thenN ?_)))))))))))))))))
    refine .cond rfl (fun hb6 => ?_) (fun hb6 => ?_)
    ·
      replace hb6 : sameC n id W.checks[k] = true := hb6
      refine .text (.as_ rfl rfl (.done (.blkN (.thenN ?_))))
      refine .text (.mv rfl rfl (.inc rfl rfl (by omega) rfl (.as_ rfl rfl (.done (.thenN ?_)))))
      refine J.again (k + 1, lv, ml) (by dsimp only; omega) ⟨hk, by dsimp only; rw [flt_no hk (by rw [hb6]; rfl)]; exact hl⟩ (.cons rfl (.cons rfl (.cons rfl (.cons rfl (.cons rfl (.cons ?_ (.cons rfl (.nil _)))))))) rfl rfl
      dsimp only; rw [any_take_succ hk, hb6, Bool.or_true]; rfl
    ·
      replace hb6 : sameC n id W.checks[k] = false := hb6
      refine .text (.mv rfl rfl (.mv rfl rfl (.nilOk rfl rfl (.fa rfl rfl (.ld rfl rfl rfl rfl (.mv rfl rfl (.ix (i := k) hc rfl rfl rfl hk rfl (.ldE hc hk rfl rfl rfl fun vs hvs => ?_))))))))
      obtain rfl := hvs
      refine .bs [_, _, _, _, _, _, _] rfl rfl rfl rfl (by decide) rfl rfl rfl fun b51 => ?_
      refine .app1 (z := W.checks[k]) rfl hl rfl rfl rfl rfl rfl (by unfold maxL; omega) rfl rfl fun v52 m52 hm52 => .as_ rfl rfl (.done (.blkN (.thenN ?_)))
      refine .text (.mv rfl rfl (.inc rfl rfl (by omega) rfl (.as_ rfl rfl (.done (.thenN ?_)))))
      refine J.dropF 1 (J.again (k + 1, v52, m52) (by dsimp only; omega) ⟨hk, by dsimp only; rw [flt_yes hk (by rw [hb6]; rfl)]; exact hm52⟩ (.cons rfl (.cons rfl (.cons rfl (.cons rfl (.cons rfl (.cons ?_ (.cons rfl (.nil _)))))))) rfl rfl)
      dsimp only; rw [any_take_succ hk, hb6, Bool.or_false]; rfl
  ·
    have hk : k = W.checks.length := by simp [cmpI] at hb4; omega
    subst hk
    rw [List.take_length] at hl
    rw [List.take_length]
    refine J.frz hl RChk.mono fun h1 hl1 hs1 => ?_
    obtain ⟨lA, lc, rfl⟩ := hs1.form
    have hs := hs.mono RSvc.mono hl1
    have hn := hn.mono RNod.mono hl1
    refine .exit (.thenE (.thenE (.blkHit (.thenN ?_))))
    refine .seq (.text (.mv rfl rfl (.mv rfl rfl (.nilOk rfl rfl (.fa rfl rfl (.stS rfl rfl rfl rfl (.done (.thenN ?_))))))))
    refine .seq (.seq (.text (.mv rfl rfl (.not rfl rfl (.done (.thenN ?_))))))
    refine .cond rfl (fun hb10 => ?_) (fun hb10 => ?_)
    ·
      refine .seq (.text (.as_ rfl rfl (.done (.thenN ?_))))
      refine .ret (.thenR ?_)
      have hno : W.checks.any (sameC n id) = false := by simpa using hb10
      refine J.retTmp rfl (List.Sublist.refl _) ⟨_, rfl, by rw [rfDropCE, if_pos hb10]; rfl, ?_⟩
      rw [rfDropCW, if_pos hb10]
      rw [flt_any hno] at hs1 ⊢
      exact ⟨_, _, _, rfl, hn, hs, hs1⟩
    ·
      refine .skip (.thenN ?_)
      refine .seq (.text (.mv rfl rfl (.mv rfl rfl (?_))))
      refine .callM rfl rfl (raise2_walk (a := .int .i64 W.most) (b := (.slice nA W.nodes.length nc)) (c := (.slice sA W.services.length sc)) (d := (.slice lA (W.checks.filter fun c => !sameC n id c).length lc)) (l0 := W.l0) (l1 := W.l1) (l2 := W.l2)) rfl rfl fun u61 h61 m61 hl61 hu61 => ?_
      obtain ⟨rfl, rfl, rfl⟩ := hu61
      refine .done (.thenN ?_)
      refine .seq (.text (.as_ rfl rfl (.done (.thenN ?_))))
      refine .ret ?_
      exact J.retTmp rfl (List.Sublist.refl _) ⟨_, rfl, by rw [rfDropCE, if_neg (ifn hb10)]; rfl, by rw [rfDropCW, if_neg (ifn hb10)]; exact ⟨_, _, _, rfl, hn, hs, hs1⟩⟩

theorem rfhealth_walk {wb : Nat} {W : Rrf} {nv sv cv : Value} {h : Hp} {L : List Hp} [At h L wb (.cells ⟨rfV W nv sv cv⟩ 68 (0, 0))] (hc : SlR h 7 RChk cv W.checks) {n : Int} {service : ByteArray} : FR Go.Proofs.Tryz.prog 12 [.pointer (some ⟨wb, 0, none⟩), .int .i64 n, .string service] h L (.int .i64 (rfHealth W n service)) := by
  refine FS.enter Go.Proofs.Tryz.func12 rfl rfl fun w0 => ?_
  refine .seq (.text (.as_ rfl rfl (.done (.thenN ?_))))
  refine .seq (.text (.as_ rfl rfl (.done (.thenN ?_))))
  refine .seq (.seq (.text (.as_ rfl rfl (.done (.thenN ?_)))))
  refine .block (?_)
  refine J.loop (fun k : Nat => k ≤ W.checks.length) (fun k => [(0, .pointer (some ⟨wb, 0, none⟩)), (1, .int .i64 n), (2, .string service), (7, .int .i64 ((W.checks.take k).foldl (fun w c => if (hIs n service c && decide (w < c.status)) = true then c.status else w) 0)), (8, .int .i64 (k : Int))]) (fun _ => h) (fun _ => L) (fun k => W.checks.length - k) 0 (Nat.zero_le _) (.cons rfl (.cons rfl (.cons rfl (.cons rfl (.cons rfl (.nil _)))))) rfl rfl ?_
  rintro k hk0
  have hmx := hc.len
  unfold maxL at hmx
  refine .seq (.seq (.text (.mv rfl rfl (.mv rfl rfl (.nilOk rfl rfl (.fa rfl rfl (.ld rfl rfl rfl rfl (.len hc rfl rfl rfl (.cmp rfl rfl rfl rfl (.done (.thenN ?_)))))))))))
  refine .cond rfl (fun hb3 => ?_) (fun hb3 => ?_)
  ·
    have hk : k < W.checks.length := by simp [cmpI] at hb3; omega
    refine .skip (.thenN ?_)
    refine .seq (.block (.seq (.text (.mv rfl rfl (.nilOk rfl rfl (.fa rfl rfl (.ld rfl rfl rfl rfl (.mv rfl rfl (.ix (i := k) hc rfl rfl rfl hk rfl (.ldE hc hk rfl rfl rfl fun vs hvs => ?_))))))))))
    obtain rfl := hvs
    refine .alloc (cs := [_, _, _, _, _, _, _]) rfl rfl rfl fun b9 => .stW rfl rfl rfl rfl rfl rfl (.done (.thenN ?_))
    refine .seq (.text (.fa rfl rfl (.ld rfl rfl rfl rfl (.mv rfl rfl (.cmp rfl rfl rfl rfl (.mv rfl rfl (.and (d := 40) (g := 30) _ _ (take_drop 10) rfl rfl (fun hb6_5 => .guard rfl rfl rfl rfl (.fa rfl rfl (.guard rfl rfl rfl rfl (.ld rfl rfl rfl rfl (.guard rfl rfl rfl rfl (.cmpS rfl rfl rfl rfl (.guard rfl rfl rfl rfl (.mv rfl rfl (.or (d := 39) (g := 34) _ _ (take_drop 5) rfl rfl (fun hb6_9 => .guard rfl rfl rfl rfl (.fa rfl rfl (.guard rfl rfl rfl rfl (.ld rfl rfl rfl rfl (.guard rfl rfl rfl rfl (.mv rfl rfl (.guard rfl rfl rfl rfl (.cmpS rfl rfl rfl rfl (.guard rfl rfl rfl rfl (.pick rfl rfl rfl rfl ((.done (.thenN (.midB rfl)))))))))))))) (.guardNo rfl rfl rfl rfl rfl rfl (.guardNo rfl rfl rfl rfl rfl rfl (.guardNo rfl rfl rfl rfl rfl rfl (.guardNo rfl rfl rfl rfl rfl rfl (.guard rfl rfl rfl rfl (.pick rfl rfl rfl rfl ((.done (.thenN (.midB rfl)))))))))) (.pick rfl rfl rfl rfl ((.done (.thenN (.midB rfl)))))))))))))) (.guardNo rfl rfl rfl rfl rfl rfl (.guardNo rfl rfl rfl rfl rfl rfl (.guardNo rfl rfl rfl rfl rfl rfl (.guardNo rfl rfl rfl rfl rfl rfl (.guardU rfl rfl rfl rfl rfl (.guardU rfl rfl rfl rfl rfl (.guardU rfl rfl rfl rfl rfl (.guardU rfl rfl rfl rfl rfl (.guardNo rfl rfl rfl rfl rfl rfl (.pick rfl rfl rfl rfl ((.done (.thenN (.midB rfl)))))))))))))) (.mv rfl rfl (.and (d := 46) (g := 41) _ _ (take_drop 5) rfl rfl (fun hb6_16 => .guard rfl rfl rfl rfl (.fa rfl rfl (.guard rfl rfl rfl rfl (.ld rfl rfl rfl rfl (.guard rfl rfl rfl rfl (.mv rfl rfl (.guard rfl rfl rfl rfl (.cmp rfl rfl rfl rfl (.pick rfl rfl rfl rfl ((.done (.thenN (.midB rfl))))))))))))) (.guardNo rfl rfl rfl rfl rfl rfl (.guardNo rfl rfl rfl rfl rfl rfl (.guardNo rfl rfl rfl rfl rfl rfl (.guardNo rfl rfl rfl rfl rfl rfl (.pick rfl rfl rfl rfl ((.done (.thenN (.midB rfl))))))))) (.done (.thenN ?_)))))))))))
    refine .cond rfl (fun hb6 => ?_) (fun hb6 => ?_)
    ·
      replace hb6 : (hIs n service W.checks[k] && decide ((W.checks.take k).foldl (fun w c => if (hIs n service c && decide (w < c.status)) = true then c.status else w) 0 < W.checks[k].status)) = true := hb6
      refine .text (.fa rfl rfl (.ld rfl rfl rfl rfl (.as_ rfl rfl (.done (.blkN (.thenN ?_))))))
      refine .text (.mv rfl rfl (.inc rfl rfl (by omega) rfl (.as_ rfl rfl (.done (.thenN ?_)))))
      refine J.dropF 1 (J.again (k + 1) (by omega) hk (.cons rfl (.cons rfl (.cons rfl (.cons ?_ (.cons rfl (.nil _)))))) rfl rfl)
      rw [foldl_take_succ hk, if_pos hb6]; rfl
    ·
      replace hb6 : (hIs n service W.checks[k] && decide ((W.checks.take k).foldl (fun w c => if (hIs n service c && decide (w < c.status)) = true then c.status else w) 0 < W.checks[k].status)) = false := hb6
      refine .skip (.blkN (.thenN ?_))
      refine .text (.mv rfl rfl (.inc rfl rfl (by omega) rfl (.as_ rfl rfl (.done (.thenN ?_)))))
      refine J.dropF 1 (J.again (k + 1) (by omega) hk (.cons rfl (.cons rfl (.cons rfl (.cons ?_ (.cons rfl (.nil _)))))) rfl rfl)
      rw [foldl_take_succ hk, if_neg (ifn hb6)]; rfl
  ·
    have hk : k = W.checks.length := by simp [cmpI] at hb3; omega
    subst hk
    rw [List.take_length]
    refine .exit (.thenE (.thenE (.blkHit (.thenN ?_))))
    refine .seq (.text (.mv rfl rfl (.as_ rfl rfl (.done (.thenN ?_)))))
    refine .ret ?_
    exact J.retR rfl rfl (List.Sublist.refl _)
end Go.Sod
