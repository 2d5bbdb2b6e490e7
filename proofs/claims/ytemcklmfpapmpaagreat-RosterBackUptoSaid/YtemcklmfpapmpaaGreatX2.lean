/-
  The tables' Each, walked. Conditions: none.
-/
import Derived.Test.YtemcklmfpapmpaaGreatX1
namespace Go.Sod
set_option linter.unusedVariables false
set_option linter.unusedSimpArgs false
set_option maxRecDepth 10000
set_option maxHeartbeats 4000000

/-- a row, and its value's cells -/
def rowV {α : Type} (z : Row α × List Value) : List Value := .string z.1.key :: (z.2 ++ [.int .u64 z.1.made, .int .u64 z.1.ix])
def RZ {α : Type} (n : Nat) (R : Rp α) : Rp (Row α × List Value) := fun h z vs => vs = rowV z ∧ z.2.length = n ∧ z.2.all oneV = true ∧ R h z.1.val z.2
theorem RZ.mono {α : Type} {n : Nat} {R : Rp α} (hR : Mono R) : Mono (RZ n R) := fun h h' z vs l ⟨a, b, c, d⟩ => ⟨a, b, c, hR _ _ _ _ l d⟩
theorem rowV_len {α : Type} {z : Row α × List Value} {n : Nat} (h : z.2.length = n) : (rowV z).length = n + 3 := by simp [rowV, h]
theorem rowV_one {α : Type} {z : Row α × List Value} (h : z.2.all oneV = true) : (rowV z).all oneV = true := by simp [rowV, h, oneV]
theorem rowV_val {α : Type} {z : Row α × List Value} {n : Nat} (h : z.2.length = n) : ((rowV z).drop 1).take n = z.2 := by simp [rowV, ← h]
theorem SlR.rows {α : Type} {h : Hp} {n : Nat} {R : Rp α} {v : Value} {xs : List (Row α)} (s : SlR h (n + 3) (RRow R) v xs) :
    ∃ zs : List (Row α × List Value), zs.map (·.1) = xs ∧ SlR h (n + 3) (RZ n R) v zs := by
  obtain ⟨zs, h1, A, c, rfl, h2, h3, h4⟩ := s.vals
  have cells : ∀ z : Row α × List Value, z ∈ zs → ∃ ws, z.2 = .string z.1.key :: (ws ++ [.int .u64 z.1.made, .int .u64 z.1.ix]) ∧ ws = (z.2.drop 1).take n ∧ ws.length = n ∧ ws.all oneV = true ∧ R h z.1.val ws := fun z hz => by
    obtain ⟨i, hi, rfl⟩ := List.getElem_of_mem hz
    obtain ⟨vs, a1, a2, ⟨e1, _, _, ws, e2, hR⟩, _⟩ := h4 i hi
    subst e1
    rw [e2] at a1 a2
    have hl : ws.length = n := by simpa using a1
    refine ⟨ws, e2, ?_, hl, ?_, hR⟩
    · rw [e2]; simp [← hl]
    · simp only [List.all_cons, List.all_append, Bool.and_eq_true] at a2; exact a2.2.1
  refine ⟨zs.map fun z => (z.1, (z.2.drop 1).take n), by rw [List.map_map]; exact h1, A, c, by simp, by simpa using h2, by simpa using h3, fun i hi => ?_⟩
  have hi' : i < zs.length := by simpa using hi
  obtain ⟨vs, a1, a2, ⟨e1, _, _, _⟩, a4⟩ := h4 i hi'
  obtain ⟨ws, c1, c2, c3, c4, c5⟩ := cells zs[i] (List.getElem_mem hi')
  refine ⟨vs, a1, a2, ?_, a4⟩
  rw [List.getElem_map, e1]
  exact ⟨by rw [← c2]; exact c1, by rw [← c2]; exact c3, by rw [← c2]; exact c4, by rw [← c2]; exact c5⟩

theorem eachSvc_walk {tb : Nat} {rv : Value} {most last : Int} {h mr : Hp} {F : Hp → List Hp} {L : List Hp} {xs : List (Row Svc)} [At h L tb (.cells ⟨[.int .i64 most, rv, .int .u64 last]⟩ 114 (0, 0))] [hF : HpIn L mr F] (hr : SlT mr h rv 10 131 (RRow RSvc) xs) (hm : most ≠ 0) : FG Go.Proofs.Tryz.prog 94 [.pointer (some ⟨tb, 0, none⟩)] h L (fun v h' => ∃ B lv zs, v = .func (.func 107) ⟨[]⟩ ⟨[.pointer (some ⟨B, 0, none⟩)]⟩ ∧ h' B = some (.cells ⟨[lv]⟩ 112 (0, 0)) ∧ SlR h' 10 (RZ 7 RSvc) lv zs ∧ zs.map (·.1) = xs) := by
  refine FS.enter Go.Proofs.Tryz.func94 rfl rfl fun w0 => ?_
  refine .seq (.text (.as_ rfl rfl (.done (.thenN ?_))))
  refine .seq (.text (.mv rfl rfl (?_)))
  refine .callG rfl rfl (listSvc hr hm) rfl rfl fun u5 h5 hl5 hu5 => ?_
  obtain ⟨zs, hz1, hz⟩ := hu5.rows
  obtain ⟨A5, c5, rfl⟩ := hz.form
  refine .alloc (cs := [_]) rfl rfl rfl fun b3 => .stS rfl rfl rfl rfl (.done (.thenN ?_))
  refine .seq (.text (.mkF rfl rfl rfl (.as_ rfl rfl (.done (.thenN ?_)))))
  refine .ret ?_
  refine J.frzB fun h' hl' hB => ?_
  exact J.retG rfl (List.Sublist.refl _) ⟨_, _, zs, rfl, hB, hz.mono (RZ.mono RSvc.mono) hl', hz1⟩

theorem EachSvc_walk {tb : Nat} {rv : Value} {most last : Int} {h mr : Hp} {F : Hp → List Hp} {L : List Hp} {xs : List (Row Svc)} [At h L tb (.cells ⟨[.int .i64 most, rv, .int .u64 last]⟩ 114 (0, 0))] [hF : HpIn L mr F] (hr : SlT mr h rv 10 131 (RRow RSvc) xs) (hm : most ≠ 0) : FG Go.Proofs.Tryz.prog 67 [.pointer (some ⟨tb, 0, none⟩)] h L (fun v h' => ∃ B2 B lv zs, v = .func (.func 95) ⟨[]⟩ ⟨[.pointer (some ⟨B2, 0, none⟩)]⟩ ∧ h' B2 = some (.cells ⟨[.func (.func 107) ⟨[]⟩ ⟨[.pointer (some ⟨B, 0, none⟩)]⟩]⟩ 153 (0, 0)) ∧ h' B = some (.cells ⟨[lv]⟩ 112 (0, 0)) ∧ SlR h' 10 (RZ 7 RSvc) lv zs ∧ zs.map (·.1) = xs) := by
  refine FS.enter Go.Proofs.Tryz.func67 rfl rfl fun w0 => ?_
  refine .seq (.text (.as_ rfl rfl (.done (.thenN ?_))))
  refine .seq (.text (.mv rfl rfl (?_)))
  refine .callG rfl rfl (eachSvc_walk hr hm) rfl rfl fun u5 h5 hl5 hu5 => ?_
  obtain ⟨B, lv, zs, rfl, hB, hz, hz1⟩ := hu5
  refine .alloc (cs := [_]) rfl rfl rfl fun b3 => .stS rfl rfl rfl rfl (.done (.thenN ?_))
  refine .seq (.text (.mkF rfl rfl rfl (.as_ rfl rfl (.done (.thenN ?_)))))
  refine .ret ?_
  refine J.frzB fun h' hl' hB2 => ?_
  exact J.retG rfl (List.Sublist.refl _) ⟨_, B, lv, zs, rfl, hB2, hl' _ _ hB, hz.mono (RZ.mono RSvc.mono) hl', hz1⟩

theorem eachSvc_it {h : Hp} {B : Nat} {lv : Value} {zs : List (Row Svc × List Value)} (hB : h B = some (.cells ⟨[lv]⟩ 112 (0, 0))) (hz : SlR h 10 (RZ 7 RSvc) lv zs) : IT Go.Proofs.Tryz.prog 107 [.pointer (some ⟨B, 0, none⟩)] h (zs.map fun z => [.agg ⟨rowV z⟩]) := by
  intro l St0 Sx h1 ms hle hy hs0
  obtain ⟨A, c, rfl⟩ := hz.form
  refine FS.enter Go.Proofs.Tryz.func107 rfl rfl fun w0 => ?_
  haveI : ∀ L, At h1 L B (.cells ⟨[.slice A zs.length c]⟩ 112 (0, 0)) := fun L => At.ofH (hle _ _ hB)
  refine .seq (.text (.ld rfl rfl rfl rfl (.len (hz.mono (RZ.mono RSvc.mono) hle) rfl rfl rfl (.mv rfl rfl (.done (.thenN ?_))))))
  refine .block (?_)
  refine J.loop (ι := Nat × Hp × List Hp) (fun i => i.1 ≤ zs.length ∧ h.le i.2.1 ∧ St0 i.1 i.2.1 i.2.2) (fun i => [(0, .func (.yield l) #[] #[]), (5, .slice A zs.length c), (6, .int .i64 (zs.length : Int)), (7, .int .i64 (i.1 : Int))]) (fun i => i.2.1) (fun i => i.2.2) (fun i => zs.length - i.1) (0, h1, ms) ⟨Nat.zero_le _, hle, hs0⟩ (.cons rfl (.cons rfl (.cons rfl (.cons rfl (.nil _))))) rfl rfl ?_
  rintro ⟨k, hk, Lk⟩ ⟨hk0, hlk, hS⟩
  dsimp only at hk0 hlk hS ⊢
  have hx := hz.mono (RZ.mono RSvc.mono) hlk
  refine .seq (.text (.cmp rfl rfl rfl rfl (.done (.thenN ?_))))
  refine .seq (.cond rfl (fun hb1 => ?_) (fun hb1 => ?_))
  ·
    have hkl : k < zs.length := by simp [cmpI] at hb1; omega
    have hyk := hy k (by simpa using hkl) hk Lk hlk hS
    rw [List.getElem_map] at hyk
    refine .skip (.thenN ?_)
    refine .seq (.block (.seq (.text (.ix (i := k) hx rfl rfl rfl hkl rfl (.ldE hx hkl rfl rfl rfl fun vs hvs => ?_)))))
    obtain ⟨rfl, z1, z2, z3⟩ := hvs
    refine .alloc (cs := [_, _, _, _, _, _, _, _, _, _]) rfl rfl rfl fun b4 => .stW rfl rfl (rowV_one z2) rfl (by rw [rowV_len z1]; rfl) rfl (.done (.thenN ?_))
    refine .seq (.text (.mv rfl rfl (.ldW rfl (rowV_len z1) rfl rfl (?_))))
    refine J.dropF 1 ?_
    refine .yield0 rfl rfl hyk rfl rfl fun b13 h13 ms13 hl13 hR13 => .not rfl rfl (.done (.thenN ?_))
    refine .cond rfl (fun hb3 => ?_) (fun hb3 => ?_)
    ·
      refine .ret (.blkR (.thenR (.thenR (.blkR ?_))))
      rcases hR13 with ⟨e, _⟩ | ⟨_, hX⟩
      · subst e; simp at hb3
      · exact J.retTmp (vs := []) rfl (List.Sublist.refl _) ⟨rfl, .inr hX⟩
    ·
      obtain ⟨rfl, hS'⟩ : b13 = true ∧ St0 (k + 1) h13 ms13 := by
        rcases hR13 with h | ⟨e, _⟩
        · exact h
        · subst e; simp at hb3
      refine .skip (.blkN (.thenN ?_))
      refine .text (.inc rfl rfl (by have := hx.len; unfold maxL at this; omega) rfl (.mv rfl rfl (.done (.thenN ?_))))
      exact J.again (k + 1, h13, ms13) (by dsimp only; omega) ⟨hkl, Hp.le_trans hlk hl13, hS'⟩ (.cons rfl (.cons rfl (.cons rfl (.cons rfl (.nil _))))) rfl rfl
  ·
    have hkl : k = zs.length := by simp [cmpI] at hb1; omega
    refine .exit (.thenE (.thenE (.blkHit ?_)))
    refine J.endN ?_
    subst hkl
    refine J.retTmp (vs := []) rfl (List.Sublist.refl _) ⟨rfl, .inl ?_⟩
    rw [List.length_map]; exact hS

theorem EachSvc_it {h : Hp} {B2 B : Nat} {lv : Value} {zs : List (Row Svc × List Value)} (hB2 : h B2 = some (.cells ⟨[.func (.func 107) ⟨[]⟩ ⟨[.pointer (some ⟨B, 0, none⟩)]⟩]⟩ 153 (0, 0))) (hB : h B = some (.cells ⟨[lv]⟩ 112 (0, 0))) (hz : SlR h 10 (RZ 7 RSvc) lv zs) : IT Go.Proofs.Tryz.prog 95 [.pointer (some ⟨B2, 0, none⟩)] h (zs.map fun z => [.string z.1.key, .agg ⟨z.2⟩]) := by
  intro l St0 Sx h1 ms hle hy hs0
  refine FS.enter Go.Proofs.Tryz.func95 rfl rfl fun w0 => ?_
  haveI : ∀ L, At h1 L B2 (.cells ⟨[.func (.func 107) ⟨[]⟩ ⟨[.pointer (some ⟨B, 0, none⟩)]⟩]⟩ 153 (0, 0)) := fun L => At.ofH (hle _ _ hB2)
  refine .seq (.text (.box (cs := [_]) rfl rfl rfl rfl fun b2 => .done (.thenN ?_)))
  refine .seq (.text (.ld rfl rfl rfl rfl (.done (.thenN ?_))))
  refine .block (?_)
  refine J.range rfl rfl ((eachSvc_it hB hz).mono hle) (by intro p hp; simp at hp; subst hp; exact Nat.le_of_ble_eq_true rfl) (by intro i hi; simp) (fun i h2 L2 => h.le h2 ∧ ∃ L', L2 = one b2 (.cells ⟨[.func (.yield l) #[] #[]]⟩ 155 (0, 0)) :: L' ∧ St0 i h2 L') (fun c h2 L2 => c = .ret ∧ ∃ L', L2 = one b2 (.cells ⟨[.func (.yield l) #[] #[]]⟩ 155 (0, 0)) :: L' ∧ Sx h2 L') ⟨hle, _, rfl, hs0⟩ ?_ ?_ ?_
  ·
    rintro l' i hi h2 L2 hle2 ⟨hle', L', rfl, hS⟩ w1
    have hil : i < zs.length := by simpa using hi
    have hyk := hy i (by simpa using hil) h2 L' hle' hS
    rw [List.getElem_map] at hyk
    obtain ⟨A, c, rfl⟩ := hz.form
    obtain ⟨vs, a1, a2, ⟨rfl, z1, z2, z3⟩, _⟩ := hz.at hil
    rw [List.getElem_map]
    refine .text (.alloc (cs := [_, _, _, _, _, _, _, _, _, _]) rfl rfl rfl fun b3 => .stW rfl rfl (rowV_one z2) rfl (by rw [rowV_len z1]; rfl) rfl (.done (.thenN ?_)))
    refine J.asgEnd fun w2 => ?_
    refine .block (.seq (.text (.ld rfl rfl rfl rfl (.fa rfl rfl (.ld (v := .string zs[i].1.key) rfl rfl rfl rfl (.fa rfl rfl (.ldA zs[i].2 rfl z1 (rowV_val z1) rfl rfl (?_))))))))
    refine J.dropF 1 (J.perm (List.perm_append_comm (l₁ := [one b2 (.cells ⟨[.func (.yield l) #[] #[]]⟩ 155 (0, 0))]) (l₂ := L')) ?_)
    refine .yield (ms := L') (L1 := [one b2 (.cells ⟨[.func (.yield l) #[] #[]]⟩ 155 (0, 0))]) rfl rfl hyk rfl rfl fun b11 h11 ms11 hl11 hR11 => ?_
    refine J.perm (List.perm_append_comm (l₁ := ms11) (l₂ := [one b2 (.cells ⟨[.func (.yield l) #[] #[]]⟩ 155 (0, 0))])) ?_
    refine .not rfl rfl (.done (.thenN ?_))
    refine .cond rfl (fun hb3 => ?_) (fun hb3 => ?_)
    ·
      refine .ret (.blkR ?_)
      rcases hR11 with ⟨e, _⟩ | ⟨_, hX⟩
      · subst e; simp at hb3
      · exact J.roundR ⟨rfl, _, rfl, hX⟩
    ·
      refine .skip (.blkN ?_)
      rcases hR11 with ⟨_, hS'⟩ | ⟨e, _⟩
      · exact J.roundN ⟨Hp.le_trans hle' hl11, _, rfl, hS'⟩
      · subst e; simp at hb3
  ·
    rintro D h2 L2 hle2 ⟨hle', L', rfl, hS⟩
    rw [List.length_map] at hS
    refine (.blkN ?_)
    refine J.unmark ?_
    refine J.dropF 2 (J.retTmp (vs := []) rfl (List.Sublist.refl _) ⟨rfl, .inl ?_⟩)
    rw [List.length_map]; exact hS
  ·
    rintro D c h2 L2 hle2 ⟨rfl, L', rfl, hX⟩
    refine .ret (.blkR ?_)
    refine J.unmark ?_
    exact J.dropF 2 (J.retTmp (vs := []) rfl (List.Sublist.refl _) ⟨rfl, .inr hX⟩)

theorem eachChk_walk {tb : Nat} {rv : Value} {most last : Int} {h mr : Hp} {F : Hp → List Hp} {L : List Hp} {xs : List (Row Chk)} [At h L tb (.cells ⟨[.int .i64 most, rv, .int .u64 last]⟩ 117 (0, 0))] [hF : HpIn L mr F] (hr : SlT mr h rv 10 93 (RRow RChk) xs) (hm : most ≠ 0) : FG Go.Proofs.Tryz.prog 109 [.pointer (some ⟨tb, 0, none⟩)] h L (fun v h' => ∃ B lv zs, v = .func (.func 113) ⟨[]⟩ ⟨[.pointer (some ⟨B, 0, none⟩)]⟩ ∧ h' B = some (.cells ⟨[lv]⟩ 115 (0, 0)) ∧ SlR h' 10 (RZ 7 RChk) lv zs ∧ zs.map (·.1) = xs) := by
  refine FS.enter Go.Proofs.Tryz.func109 rfl rfl fun w0 => ?_
  refine .seq (.text (.as_ rfl rfl (.done (.thenN ?_))))
  refine .seq (.text (.mv rfl rfl (?_)))
  refine .callG rfl rfl (listChk hr hm) rfl rfl fun u5 h5 hl5 hu5 => ?_
  obtain ⟨zs, hz1, hz⟩ := hu5.rows
  obtain ⟨A5, c5, rfl⟩ := hz.form
  refine .alloc (cs := [_]) rfl rfl rfl fun b3 => .stS rfl rfl rfl rfl (.done (.thenN ?_))
  refine .seq (.text (.mkF rfl rfl rfl (.as_ rfl rfl (.done (.thenN ?_)))))
  refine .ret ?_
  refine J.frzB fun h' hl' hB => ?_
  exact J.retG rfl (List.Sublist.refl _) ⟨_, _, zs, rfl, hB, hz.mono (RZ.mono RChk.mono) hl', hz1⟩

theorem EachChk_walk {tb : Nat} {rv : Value} {most last : Int} {h mr : Hp} {F : Hp → List Hp} {L : List Hp} {xs : List (Row Chk)} [At h L tb (.cells ⟨[.int .i64 most, rv, .int .u64 last]⟩ 117 (0, 0))] [hF : HpIn L mr F] (hr : SlT mr h rv 10 93 (RRow RChk) xs) (hm : most ≠ 0) : FG Go.Proofs.Tryz.prog 97 [.pointer (some ⟨tb, 0, none⟩)] h L (fun v h' => ∃ B2 B lv zs, v = .func (.func 110) ⟨[]⟩ ⟨[.pointer (some ⟨B2, 0, none⟩)]⟩ ∧ h' B2 = some (.cells ⟨[.func (.func 113) ⟨[]⟩ ⟨[.pointer (some ⟨B, 0, none⟩)]⟩]⟩ 165 (0, 0)) ∧ h' B = some (.cells ⟨[lv]⟩ 115 (0, 0)) ∧ SlR h' 10 (RZ 7 RChk) lv zs ∧ zs.map (·.1) = xs) := by
  refine FS.enter Go.Proofs.Tryz.func97 rfl rfl fun w0 => ?_
  refine .seq (.text (.as_ rfl rfl (.done (.thenN ?_))))
  refine .seq (.text (.mv rfl rfl (?_)))
  refine .callG rfl rfl (eachChk_walk hr hm) rfl rfl fun u5 h5 hl5 hu5 => ?_
  obtain ⟨B, lv, zs, rfl, hB, hz, hz1⟩ := hu5
  refine .alloc (cs := [_]) rfl rfl rfl fun b3 => .stS rfl rfl rfl rfl (.done (.thenN ?_))
  refine .seq (.text (.mkF rfl rfl rfl (.as_ rfl rfl (.done (.thenN ?_)))))
  refine .ret ?_
  refine J.frzB fun h' hl' hB2 => ?_
  exact J.retG rfl (List.Sublist.refl _) ⟨_, B, lv, zs, rfl, hB2, hl' _ _ hB, hz.mono (RZ.mono RChk.mono) hl', hz1⟩

theorem eachChk_it {h : Hp} {B : Nat} {lv : Value} {zs : List (Row Chk × List Value)} (hB : h B = some (.cells ⟨[lv]⟩ 115 (0, 0))) (hz : SlR h 10 (RZ 7 RChk) lv zs) : IT Go.Proofs.Tryz.prog 113 [.pointer (some ⟨B, 0, none⟩)] h (zs.map fun z => [.agg ⟨rowV z⟩]) := by
  intro l St0 Sx h1 ms hle hy hs0
  obtain ⟨A, c, rfl⟩ := hz.form
  refine FS.enter Go.Proofs.Tryz.func113 rfl rfl fun w0 => ?_
  haveI : ∀ L, At h1 L B (.cells ⟨[.slice A zs.length c]⟩ 115 (0, 0)) := fun L => At.ofH (hle _ _ hB)
  refine .seq (.text (.ld rfl rfl rfl rfl (.len (hz.mono (RZ.mono RChk.mono) hle) rfl rfl rfl (.mv rfl rfl (.done (.thenN ?_))))))
  refine .block (?_)
  refine J.loop (ι := Nat × Hp × List Hp) (fun i => i.1 ≤ zs.length ∧ h.le i.2.1 ∧ St0 i.1 i.2.1 i.2.2) (fun i => [(0, .func (.yield l) #[] #[]), (5, .slice A zs.length c), (6, .int .i64 (zs.length : Int)), (7, .int .i64 (i.1 : Int))]) (fun i => i.2.1) (fun i => i.2.2) (fun i => zs.length - i.1) (0, h1, ms) ⟨Nat.zero_le _, hle, hs0⟩ (.cons rfl (.cons rfl (.cons rfl (.cons rfl (.nil _))))) rfl rfl ?_
  rintro ⟨k, hk, Lk⟩ ⟨hk0, hlk, hS⟩
  dsimp only at hk0 hlk hS ⊢
  have hx := hz.mono (RZ.mono RChk.mono) hlk
  refine .seq (.text (.cmp rfl rfl rfl rfl (.done (.thenN ?_))))
  refine .seq (.cond rfl (fun hb1 => ?_) (fun hb1 => ?_))
  ·
    have hkl : k < zs.length := by simp [cmpI] at hb1; omega
    have hyk := hy k (by simpa using hkl) hk Lk hlk hS
    rw [List.getElem_map] at hyk
    refine .skip (.thenN ?_)
    refine .seq (.block (.seq (.text (.ix (i := k) hx rfl rfl rfl hkl rfl (.ldE hx hkl rfl rfl rfl fun vs hvs => ?_)))))
    obtain ⟨rfl, z1, z2, z3⟩ := hvs
    refine .alloc (cs := [_, _, _, _, _, _, _, _, _, _]) rfl rfl rfl fun b4 => .stW rfl rfl (rowV_one z2) rfl (by rw [rowV_len z1]; rfl) rfl (.done (.thenN ?_))
    refine .seq (.text (.mv rfl rfl (.ldW rfl (rowV_len z1) rfl rfl (?_))))
    refine J.dropF 1 ?_
    refine .yield0 rfl rfl hyk rfl rfl fun b13 h13 ms13 hl13 hR13 => .not rfl rfl (.done (.thenN ?_))
    refine .cond rfl (fun hb3 => ?_) (fun hb3 => ?_)
    ·
      refine .ret (.blkR (.thenR (.thenR (.blkR ?_))))
      rcases hR13 with ⟨e, _⟩ | ⟨_, hX⟩
      · subst e; simp at hb3
      · exact J.retTmp (vs := []) rfl (List.Sublist.refl _) ⟨rfl, .inr hX⟩
    ·
      obtain ⟨rfl, hS'⟩ : b13 = true ∧ St0 (k + 1) h13 ms13 := by
        rcases hR13 with h | ⟨e, _⟩
        · exact h
        · subst e; simp at hb3
      refine .skip (.blkN (.thenN ?_))
      refine .text (.inc rfl rfl (by have := hx.len; unfold maxL at this; omega) rfl (.mv rfl rfl (.done (.thenN ?_))))
      exact J.again (k + 1, h13, ms13) (by dsimp only; omega) ⟨hkl, Hp.le_trans hlk hl13, hS'⟩ (.cons rfl (.cons rfl (.cons rfl (.cons rfl (.nil _))))) rfl rfl
  ·
    have hkl : k = zs.length := by simp [cmpI] at hb1; omega
    refine .exit (.thenE (.thenE (.blkHit ?_)))
    refine J.endN ?_
    subst hkl
    refine J.retTmp (vs := []) rfl (List.Sublist.refl _) ⟨rfl, .inl ?_⟩
    rw [List.length_map]; exact hS

theorem EachChk_it {h : Hp} {B2 B : Nat} {lv : Value} {zs : List (Row Chk × List Value)} (hB2 : h B2 = some (.cells ⟨[.func (.func 113) ⟨[]⟩ ⟨[.pointer (some ⟨B, 0, none⟩)]⟩]⟩ 165 (0, 0))) (hB : h B = some (.cells ⟨[lv]⟩ 115 (0, 0))) (hz : SlR h 10 (RZ 7 RChk) lv zs) : IT Go.Proofs.Tryz.prog 110 [.pointer (some ⟨B2, 0, none⟩)] h (zs.map fun z => [.string z.1.key, .agg ⟨z.2⟩]) := by
  intro l St0 Sx h1 ms hle hy hs0
  refine FS.enter Go.Proofs.Tryz.func110 rfl rfl fun w0 => ?_
  haveI : ∀ L, At h1 L B2 (.cells ⟨[.func (.func 113) ⟨[]⟩ ⟨[.pointer (some ⟨B, 0, none⟩)]⟩]⟩ 165 (0, 0)) := fun L => At.ofH (hle _ _ hB2)
  refine .seq (.text (.box (cs := [_]) rfl rfl rfl rfl fun b2 => .done (.thenN ?_)))
  refine .seq (.text (.ld rfl rfl rfl rfl (.done (.thenN ?_))))
  refine .block (?_)
  refine J.range rfl rfl ((eachChk_it hB hz).mono hle) (by intro p hp; simp at hp; subst hp; exact Nat.le_of_ble_eq_true rfl) (by intro i hi; simp) (fun i h2 L2 => h.le h2 ∧ ∃ L', L2 = one b2 (.cells ⟨[.func (.yield l) #[] #[]]⟩ 167 (0, 0)) :: L' ∧ St0 i h2 L') (fun c h2 L2 => c = .ret ∧ ∃ L', L2 = one b2 (.cells ⟨[.func (.yield l) #[] #[]]⟩ 167 (0, 0)) :: L' ∧ Sx h2 L') ⟨hle, _, rfl, hs0⟩ ?_ ?_ ?_
  ·
    rintro l' i hi h2 L2 hle2 ⟨hle', L', rfl, hS⟩ w1
    have hil : i < zs.length := by simpa using hi
    have hyk := hy i (by simpa using hil) h2 L' hle' hS
    rw [List.getElem_map] at hyk
    obtain ⟨A, c, rfl⟩ := hz.form
    obtain ⟨vs, a1, a2, ⟨rfl, z1, z2, z3⟩, _⟩ := hz.at hil
    rw [List.getElem_map]
    refine .text (.alloc (cs := [_, _, _, _, _, _, _, _, _, _]) rfl rfl rfl fun b3 => .stW rfl rfl (rowV_one z2) rfl (by rw [rowV_len z1]; rfl) rfl (.done (.thenN ?_)))
    refine J.asgEnd fun w2 => ?_
    refine .block (.seq (.text (.ld rfl rfl rfl rfl (.fa rfl rfl (.ld (v := .string zs[i].1.key) rfl rfl rfl rfl (.fa rfl rfl (.ldA zs[i].2 rfl z1 (rowV_val z1) rfl rfl (?_))))))))
    refine J.dropF 1 (J.perm (List.perm_append_comm (l₁ := [one b2 (.cells ⟨[.func (.yield l) #[] #[]]⟩ 167 (0, 0))]) (l₂ := L')) ?_)
    refine .yield (ms := L') (L1 := [one b2 (.cells ⟨[.func (.yield l) #[] #[]]⟩ 167 (0, 0))]) rfl rfl hyk rfl rfl fun b11 h11 ms11 hl11 hR11 => ?_
    refine J.perm (List.perm_append_comm (l₁ := ms11) (l₂ := [one b2 (.cells ⟨[.func (.yield l) #[] #[]]⟩ 167 (0, 0))])) ?_
    refine .not rfl rfl (.done (.thenN ?_))
    refine .cond rfl (fun hb3 => ?_) (fun hb3 => ?_)
    ·
      refine .ret (.blkR ?_)
      rcases hR11 with ⟨e, _⟩ | ⟨_, hX⟩
      · subst e; simp at hb3
      · exact J.roundR ⟨rfl, _, rfl, hX⟩
    ·
      refine .skip (.blkN ?_)
      rcases hR11 with ⟨_, hS'⟩ | ⟨e, _⟩
      · exact J.roundN ⟨Hp.le_trans hle' hl11, _, rfl, hS'⟩
      · subst e; simp at hb3
  ·
    rintro D h2 L2 hle2 ⟨hle', L', rfl, hS⟩
    rw [List.length_map] at hS
    refine (.blkN ?_)
    refine J.unmark ?_
    refine J.dropF 2 (J.retTmp (vs := []) rfl (List.Sublist.refl _) ⟨rfl, .inl ?_⟩)
    rw [List.length_map]; exact hS
  ·
    rintro D c h2 L2 hle2 ⟨rfl, L', rfl, hX⟩
    refine .ret (.blkR ?_)
    refine J.unmark ?_
    exact J.dropF 2 (J.retTmp (vs := []) rfl (List.Sublist.refl _) ⟨rfl, .inr hX⟩)
end Go.Sod
