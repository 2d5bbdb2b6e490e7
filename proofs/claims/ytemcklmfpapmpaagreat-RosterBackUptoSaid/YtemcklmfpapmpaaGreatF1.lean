/-
  The document's roster: what reads it, walked. Conditions: none.
-/
import Derived.Test.YtemcklmfpapmpaaGreatTabLaw
import Derived.Test.YtemcklmfpapmpaaGreatR6
namespace Go.Sod
set_option linter.unusedVariables false
set_option linter.unusedSimpArgs false
set_option maxRecDepth 10000
set_option maxHeartbeats 4000000

/-- the document's roster -/
structure Rrf where
  most : Int
  nodes : List Nod
  services : List Svc
  checks : List Chk
  l0 : Int
  l1 : Int
  l2 : Int
def rfV (W : Rrf) (nv sv cv : Value) : List Value := [.int .i64 W.most, nv, sv, cv, .int .u64 W.l0, .int .u64 W.l1, .int .u64 W.l2]
def Rb (m h : Hp) (wb : Nat) (W : Rrf) : Prop := ∃ nv sv cv, m = one wb (.cells ⟨rfV W nv sv cv⟩ 68 (0, 0)) ∧ SlR h 4 RNod nv W.nodes ∧ SlR h 7 RSvc sv W.services ∧ SlR h 7 RChk cv W.checks
theorem Rb.mono {m h h' : Hp} {wb : Nat} {W : Rrf} (t : Rb m h wb W) (l : h.le h') : Rb m h' wb W := by
  obtain ⟨nv, sv, cv, e, a, b, c⟩ := t
  exact ⟨nv, sv, cv, e, a.mono RNod.mono l, b.mono RSvc.mono l, c.mono RChk.mono l⟩
structure RfWf (W : Rrf) : Prop where
  ln : W.nodes.length ≤ 64
  ls : W.services.length ≤ 64
  lc : W.checks.length ≤ 64
def clampM (n : Int) : Int := if decide (64 < (if decide (n < 1) = true then 1 else n)) = true then 64 else (if decide (n < 1) = true then 1 else n)
def sameN (n : Int) (x : Nod) : Bool := decide (x.node = n)
def gtN (n : Int) (x : Nod) : Bool := decide (n < x.node)
def setMN (c x : Nod) : Nod := { c with made := x.made }
def sameS (n : Int) (id : ByteArray) (x : Svc) : Bool := decide (x.node = n) && decide (x.id = id)
def gtS (n : Int) (id : ByteArray) (x : Svc) : Bool := decide (n < x.node) || (decide (x.node = n) && !(strLt x.id id || decide (x.id = id)))
def setMS (c x : Svc) : Svc := { c with made := x.made }
def sameC (n : Int) (id : ByteArray) (x : Chk) : Bool := decide (x.node = n) && decide (x.id = id)
def gtC (n : Int) (id : ByteArray) (x : Chk) : Bool := decide (n < x.node) || (decide (x.node = n) && !(strLt x.id id || decide (x.id = id)))
def setMC (c x : Chk) : Chk := { c with made := x.made }
def rfThere (W : Rrf) (n : Int) : Bool := W.nodes.any (sameN n)
def rfHas (W : Rrf) (n : Int) (id : ByteArray) : Bool := W.services.any (sameS n id)
def rfErrS (W : Rrf) (s : Svc) : Int := if (((decide (s.node < 0) || decide (7 < s.node)) || decide (s.port < 0)) || decide (65535 < s.port)) = true then 2 else if ((!nameB s.id || !nameB s.name) || !tagsB s.tags) = true then 10 else if (!rfThere W s.node) = true then 4 else 0
def rfErrC (W : Rrf) (c : Chk) : Int := if (((decide (c.node < 0) || decide (7 < c.node)) || decide (c.status < 0)) || decide (3 < c.status)) = true then 2 else if (!nameB c.id || (!decide (c.service = ⟨#[]⟩) && !nameB c.service)) = true then 10 else if decide (32 < (c.note.size : Int)) = true then 3 else if (!rfThere W c.node || (!decide (c.service = ⟨#[]⟩) && !rfHas W c.node c.service)) = true then 4 else 0
def rfNodeE (W : Rrf) (n : Int) (addr : ByteArray) : Int := if (decide (n < 0) || decide (7 < n)) = true then 2 else if decide (32 < (addr.size : Int)) = true then 3 else if (!rfThere W n && decide (W.most ≤ (W.nodes.length : Int))) = true then 5 else 0
def rfNodeW (W : Rrf) (n : Int) (addr : ByteArray) (ix : Int) : Rrf := if (decide (n < 0) || decide (7 < n)) = true then W else if decide (32 < (addr.size : Int)) = true then W else if (!rfThere W n && decide (W.most ≤ (W.nodes.length : Int))) = true then W else { W with nodes := insI (sameN n) (gtN n) setMN W.nodes ⟨n, addr, ix, ix⟩, l0 := max W.l0 ix }
def rfSvcE (W : Rrf) (s : Svc) : Int := if rfErrS W s = 0 then (if (!rfHas W s.node s.id && decide (W.most ≤ (W.services.length : Int))) = true then 5 else 0) else rfErrS W s
def rfSvcW (W : Rrf) (s : Svc) (ix : Int) : Rrf := if rfErrS W s = 0 then (if (!rfHas W s.node s.id && decide (W.most ≤ (W.services.length : Int))) = true then W else { W with services := insI (sameS s.node s.id) (gtS s.node s.id) setMS W.services { s with made := ix, ix := ix }, l1 := max W.l1 ix }) else W
def rfIsC (W : Rrf) (c : Chk) : Bool := W.checks.any (sameC c.node c.id)
def rfChkE (W : Rrf) (c : Chk) : Int := if rfErrC W c = 0 then (if (!rfIsC W c && decide (W.most ≤ (W.checks.length : Int))) = true then 5 else 0) else rfErrC W c
def rfChkW (W : Rrf) (c : Chk) (ix : Int) : Rrf := if rfErrC W c = 0 then (if (!rfIsC W c && decide (W.most ≤ (W.checks.length : Int))) = true then W else { W with checks := insI (sameC c.node c.id) (gtC c.node c.id) setMC W.checks { c with made := ix, ix := ix }, l2 := max W.l2 ix }) else W
theorem any_take_succ {α : Type} {xs : List α} {p : α → Bool} {k : Nat} (hk : k < xs.length) : (xs.take (k + 1)).any p = ((xs.take k).any p || p xs[k]) := by
  rw [List.take_add_one, List.getElem?_eq_getElem hk, List.any_append]; simp
theorem any_of {α : Type} {xs : List α} {p : α → Bool} {k : Nat} (hk : k < xs.length) (h : p xs[k] = true) : xs.any p = true := List.any_eq_true.2 ⟨_, List.getElem_mem hk, h⟩
theorem any_no {α : Type} {xs : List α} {p : α → Bool} (h : ∀ i (hi : i < xs.length), p xs[i] = false) : xs.any p = false := by
  rw [List.any_eq_false]
  intro x hx
  obtain ⟨i, hi, rfl⟩ := List.getElem_of_mem hx
  rw [h i hi]; decide

theorem rfnew_walk {h : Hp} {n : Int} : FS Go.Proofs.Tryz.prog 8 [.int .i64 n] h [] (fun v h' ms' => h' = h ∧ ∃ wb, v = .pointer (some ⟨wb, 0, none⟩) ∧ ms' = [one wb (.cells ⟨rfV ⟨clampM n, [], [], [], 0, 0, 0⟩ (.slice none 0 0) (.slice none 0 0) (.slice none 0 0)⟩ 68 (0, 0))]) := by
  refine FS.enter Go.Proofs.Tryz.func8 rfl rfl fun w0 => ?_
  refine .seq (.text (.as_ rfl rfl (.done (.thenN ?_))))
  refine J.cut (ι := Int) (fun m => m = if decide (n < 1) = true then 1 else n) (fun m => [(0, .int .i64 m)]) (fun _ => h) (fun _ => []) ?_ ?_
  ·
    refine .seq (.text (.mv rfl rfl (.cmp rfl rfl rfl rfl (.done (.thenN ?_)))))
    refine .cond rfl (fun hb1 => ?_) (fun hb1 => ?_)
    ·
      refine .text (.as_ rfl rfl (.done (.thenN ?_)))
      exact J.mid _ (by rw [if_pos hb1]) (.cons rfl (.nil _)) rfl rfl
    ·
      refine .skip (.thenN ?_)
      exact J.mid _ (by rw [if_neg (ifn hb1)]) (.cons rfl (.nil _)) rfl rfl
  ·
    intro m hm
    refine J.cut (ι := Int) (fun q => q = clampM n) (fun m => [(0, .int .i64 m)]) (fun _ => h) (fun _ => []) ?_ ?_
    ·
      refine .seq (.text (.mv rfl rfl (.cmp rfl rfl rfl rfl (.done (.thenN ?_)))))
      refine .cond rfl (fun hb3 => ?_) (fun hb3 => ?_)
      ·
        refine .text (.as_ rfl rfl (.done (.thenN ?_)))
        exact J.mid _ (by rw [hm] at hb3; rw [clampM, if_pos hb3]) (.cons rfl (.nil _)) rfl rfl
      ·
        refine .skip (.thenN ?_)
        exact J.mid _ (by rw [hm] at hb3; rw [clampM, if_neg (ifn hb3)]; exact hm) (.cons rfl (.nil _)) rfl rfl
    ·
      rintro q rfl
      refine .seq (.text (.mv rfl rfl (.bld [_, _, _, _, _, _, _] rfl (by rfl) rfl ?_)))
      refine .box (cs := [_, _, _, _, _, _, _]) rfl rfl rfl rfl fun b9 => .as_ rfl rfl (.done (.thenN ?_))
      refine .ret ?_
      exact J.retTmp rfl (List.Sublist.refl _) ⟨rfl, _, rfl, rfl⟩

theorem raise0_walk {h : Hp} {wb : Nat} {a b c d : Value} {l0 l1 l2 ix : Int} : FM Go.Proofs.Tryz.prog 64 [.pointer (some ⟨wb, 0, none⟩), .int .i64 0, .int .u64 ix] h (one wb (.cells ⟨[a, b, c, d, .int .u64 l0, .int .u64 l1, .int .u64 l2]⟩ 68 (0, 0))) (fun v h' m' => v = .tuple ⟨[]⟩ ∧ h' = h ∧ m' = one wb (.cells ⟨[a, b, c, d, .int .u64 (max l0 ix), .int .u64 l1, .int .u64 l2]⟩ 68 (0, 0))) := by
  refine FS.enter Go.Proofs.Tryz.func64 rfl rfl fun w0 => ?_
  refine .seq (.text (.mv rfl rfl (.mv rfl rfl (.mv rfl rfl (.nilOk rfl rfl (.fa rfl rfl (.ixA (i := 0) rfl rfl rfl (by decide) rfl (.ld rfl rfl rfl rfl (.cmp rfl rfl rfl rfl (.done (.thenN ?_)))))))))))
  refine .cond rfl (fun hb0 => ?_) (fun hb0 => ?_)
  ·
    refine .text (.mv rfl rfl (.mv rfl rfl (.mv rfl rfl (.nilOk rfl rfl (.fa rfl rfl (.ixA (i := 0) rfl rfl rfl (by decide) rfl (.stS rfl rfl rfl rfl (.done ?_))))))))
    exact J.retTmp (vs := []) rfl (List.Sublist.refl _) ⟨_, rfl, rfl, rfl, by rw [show max l0 ix = ix from by simp [cmpI] at hb0; omega]⟩
  ·
    refine .skip ?_
    refine J.endN ?_
    exact J.retTmp (vs := []) rfl (List.Sublist.refl _) ⟨_, rfl, rfl, rfl, by rw [show max l0 ix = l0 from by simp [cmpI] at hb0; omega]⟩

theorem raise1_walk {h : Hp} {wb : Nat} {a b c d : Value} {l0 l1 l2 ix : Int} : FM Go.Proofs.Tryz.prog 64 [.pointer (some ⟨wb, 0, none⟩), .int .i64 1, .int .u64 ix] h (one wb (.cells ⟨[a, b, c, d, .int .u64 l0, .int .u64 l1, .int .u64 l2]⟩ 68 (0, 0))) (fun v h' m' => v = .tuple ⟨[]⟩ ∧ h' = h ∧ m' = one wb (.cells ⟨[a, b, c, d, .int .u64 l0, .int .u64 (max l1 ix), .int .u64 l2]⟩ 68 (0, 0))) := by
  refine FS.enter Go.Proofs.Tryz.func64 rfl rfl fun w0 => ?_
  refine .seq (.text (.mv rfl rfl (.mv rfl rfl (.mv rfl rfl (.nilOk rfl rfl (.fa rfl rfl (.ixA (i := 1) rfl rfl rfl (by decide) rfl (.ld rfl rfl rfl rfl (.cmp rfl rfl rfl rfl (.done (.thenN ?_)))))))))))
  refine .cond rfl (fun hb0 => ?_) (fun hb0 => ?_)
  ·
    refine .text (.mv rfl rfl (.mv rfl rfl (.mv rfl rfl (.nilOk rfl rfl (.fa rfl rfl (.ixA (i := 1) rfl rfl rfl (by decide) rfl (.stS rfl rfl rfl rfl (.done ?_))))))))
    exact J.retTmp (vs := []) rfl (List.Sublist.refl _) ⟨_, rfl, rfl, rfl, by rw [show max l1 ix = ix from by simp [cmpI] at hb0; omega]⟩
  ·
    refine .skip ?_
    refine J.endN ?_
    exact J.retTmp (vs := []) rfl (List.Sublist.refl _) ⟨_, rfl, rfl, rfl, by rw [show max l1 ix = l1 from by simp [cmpI] at hb0; omega]⟩

theorem raise2_walk {h : Hp} {wb : Nat} {a b c d : Value} {l0 l1 l2 ix : Int} : FM Go.Proofs.Tryz.prog 64 [.pointer (some ⟨wb, 0, none⟩), .int .i64 2, .int .u64 ix] h (one wb (.cells ⟨[a, b, c, d, .int .u64 l0, .int .u64 l1, .int .u64 l2]⟩ 68 (0, 0))) (fun v h' m' => v = .tuple ⟨[]⟩ ∧ h' = h ∧ m' = one wb (.cells ⟨[a, b, c, d, .int .u64 l0, .int .u64 l1, .int .u64 (max l2 ix)]⟩ 68 (0, 0))) := by
  refine FS.enter Go.Proofs.Tryz.func64 rfl rfl fun w0 => ?_
  refine .seq (.text (.mv rfl rfl (.mv rfl rfl (.mv rfl rfl (.nilOk rfl rfl (.fa rfl rfl (.ixA (i := 2) rfl rfl rfl (by decide) rfl (.ld rfl rfl rfl rfl (.cmp rfl rfl rfl rfl (.done (.thenN ?_)))))))))))
  refine .cond rfl (fun hb0 => ?_) (fun hb0 => ?_)
  ·
    refine .text (.mv rfl rfl (.mv rfl rfl (.mv rfl rfl (.nilOk rfl rfl (.fa rfl rfl (.ixA (i := 2) rfl rfl rfl (by decide) rfl (.stS rfl rfl rfl rfl (.done ?_))))))))
    exact J.retTmp (vs := []) rfl (List.Sublist.refl _) ⟨_, rfl, rfl, rfl, by rw [show max l2 ix = ix from by simp [cmpI] at hb0; omega]⟩
  ·
    refine .skip ?_
    refine J.endN ?_
    exact J.retTmp (vs := []) rfl (List.Sublist.refl _) ⟨_, rfl, rfl, rfl, by rw [show max l2 ix = l2 from by simp [cmpI] at hb0; omega]⟩

theorem rfthere_walk {wb : Nat} {W : Rrf} {nv sv cv : Value} {h : Hp} {L : List Hp} [At h L wb (.cells ⟨rfV W nv sv cv⟩ 68 (0, 0))] (hn : SlR h 4 RNod nv W.nodes) (hs : SlR h 7 RSvc sv W.services) {n : Int} : FR Go.Proofs.Tryz.prog 63 [.pointer (some ⟨wb, 0, none⟩), .int .i64 n] h L (.bool (rfThere W n)) := by
  refine FS.enter Go.Proofs.Tryz.func63 rfl rfl fun w0 => ?_
  refine .seq (.text (.as_ rfl rfl (.done (.thenN ?_))))
  refine .seq (.seq (.text (.as_ rfl rfl (.done (.thenN ?_)))))
  refine .block (?_)
  refine J.loop (fun k : Nat => k ≤ W.nodes.length ∧ ∀ i (hi : i < W.nodes.length), i < k → sameN n W.nodes[i] = false) (fun k => [(0, .pointer (some ⟨wb, 0, none⟩)), (1, .int .i64 n), (5, .int .i64 (k : Int))]) (fun _ => h) (fun _ => L) (fun k => W.nodes.length - k) 0 ⟨by omega, fun i hi h => by omega⟩ (.cons rfl (.cons rfl (.cons rfl (.nil _)))) rfl rfl ?_
  rintro k ⟨hk0, hall⟩
  refine .seq (.seq (.text (.mv rfl rfl (.mv rfl rfl (.nilOk rfl rfl (.fa rfl rfl (.ld rfl rfl rfl rfl (.len hn rfl rfl rfl (.cmp rfl rfl rfl rfl (.done (.thenN ?_)))))))))))
  refine .cond rfl (fun hb2 => ?_) (fun hb2 => ?_)
  ·
    have hk : k < W.nodes.length := by simp [cmpI] at hb2; omega
    refine .skip (.thenN ?_)
    refine .seq (.block (.seq (.text (.mv rfl rfl (.nilOk rfl rfl (.fa rfl rfl (.ld rfl rfl rfl rfl (.mv rfl rfl (.ix (i := k) hn rfl rfl rfl hk rfl (.faE rfl (hn.ne (by omega)) rfl (.ldG (.int .i64 W.nodes[k].node) hn hk rfl (fun vs e => by obtain rfl := e; rfl) rfl rfl (.mv rfl rfl (.cmp rfl rfl rfl rfl (.done (.thenN ?_)))))))))))))))
    refine .cond rfl (fun hb4 => ?_) (fun hb4 => ?_)
    ·
      refine .seq (.text (.as_ rfl rfl (.done (.thenN ?_))))
      refine .ret (.blkR (.thenR (.thenR (.blkR (.thenR ?_)))))
      exact J.retR rfl (by simp only [resOne, rfThere]; rw [any_of hk hb4]) (List.Sublist.refl _)
    ·
      refine .skip (.blkN (.thenN ?_))
      refine .text (.mv rfl rfl (.inc rfl rfl (by have := hn.len; unfold maxL at this; omega) rfl (.as_ rfl rfl (.done (.thenN ?_)))))
      refine J.again (k + 1) (by omega) ⟨hk, fun i hi hik => ?_⟩ (.cons rfl (.cons rfl (.cons rfl (.nil _)))) rfl rfl
      by_cases e : i = k
      · subst e; exact hb4
      · exact hall i hi (by omega)
  ·
    have hk : k = W.nodes.length := by simp [cmpI] at hb2; omega
    refine .exit (.thenE (.thenE (.blkHit (.thenN ?_))))
    refine .seq (.text (.as_ rfl rfl (.done (.thenN ?_))))
    refine .ret ?_
    exact J.retR rfl (by simp only [resOne, rfThere]; rw [any_no fun i hi => hall i hi (by omega)]) (List.Sublist.refl _)

theorem rfhas_walk {wb : Nat} {W : Rrf} {nv sv cv : Value} {h : Hp} {L : List Hp} [At h L wb (.cells ⟨rfV W nv sv cv⟩ 68 (0, 0))] (hn : SlR h 4 RNod nv W.nodes) (hs : SlR h 7 RSvc sv W.services) {n : Int} {id : ByteArray} : FR Go.Proofs.Tryz.prog 76 [.pointer (some ⟨wb, 0, none⟩), .int .i64 n, .string id] h L (.bool (rfHas W n id)) := by
  refine FS.enter Go.Proofs.Tryz.func76 rfl rfl fun w0 => ?_
  refine .seq (.text (.as_ rfl rfl (.done (.thenN ?_))))
  refine .seq (.seq (.text (.as_ rfl rfl (.done (.thenN ?_)))))
  refine .block (?_)
  refine J.loop (fun k : Nat => k ≤ W.services.length ∧ ∀ i (hi : i < W.services.length), i < k → sameS n id W.services[i] = false) (fun k => [(0, .pointer (some ⟨wb, 0, none⟩)), (1, .int .i64 n), (2, .string id), (7, .int .i64 (k : Int))]) (fun _ => h) (fun _ => L) (fun k => W.services.length - k) 0 ⟨by omega, fun i hi h => by omega⟩ (.cons rfl (.cons rfl (.cons rfl (.cons rfl (.nil _))))) rfl rfl ?_
  rintro k ⟨hk0, hall⟩
  refine .seq (.seq (.text (.mv rfl rfl (.mv rfl rfl (.nilOk rfl rfl (.fa rfl rfl (.ld rfl rfl rfl rfl (.len hs rfl rfl rfl (.cmp rfl rfl rfl rfl (.done (.thenN ?_)))))))))))
  refine .cond rfl (fun hb2 => ?_) (fun hb2 => ?_)
  ·
    have hk : k < W.services.length := by simp [cmpI] at hb2; omega
    refine .skip (.thenN ?_)
    refine .seq (.block (.seq (.text (.mv rfl rfl (.nilOk rfl rfl (.fa rfl rfl (.ld rfl rfl rfl rfl (.mv rfl rfl (.ix (i := k) hs rfl rfl rfl hk rfl (.faE rfl (hs.ne (by omega)) rfl (.ldG (.int .i64 W.services[k].node) hs hk rfl (fun vs e => by obtain ⟨tv, rfl, _⟩ := e; rfl) rfl rfl (.mv rfl rfl (.cmp rfl rfl rfl rfl (.mv rfl rfl (.and (d := 38) (g := 27) _ _ (take_drop 11) rfl rfl (fun hb4_11 => .guard rfl rfl rfl rfl (.mv rfl rfl (.guard rfl rfl rfl rfl (.nilOk rfl rfl (.guard rfl rfl rfl rfl (.fa rfl rfl (.guard rfl rfl rfl rfl (.ld rfl rfl rfl rfl (.guard rfl rfl rfl rfl (.mv rfl rfl (.guard rfl rfl rfl rfl (.ix (i := k) hs rfl rfl rfl hk rfl (.guard rfl rfl rfl rfl (.faE rfl (hs.ne (by omega)) rfl (.guard rfl rfl rfl rfl (.ldG (.string W.services[k].id) hs hk rfl (fun vs e => by obtain ⟨tv, rfl, _⟩ := e; rfl) rfl rfl (.guard rfl rfl rfl rfl (.mv rfl rfl (.guard rfl rfl rfl rfl (.cmpS rfl rfl rfl rfl (.pick rfl rfl rfl rfl ((.done (.thenN (.midB rfl))))))))))))))))))))))))) (.guardNo rfl rfl rfl rfl rfl rfl (.guardNo rfl rfl rfl rfl rfl rfl (.guardNo rfl rfl rfl rfl rfl rfl (.guardNo rfl rfl rfl rfl rfl rfl (.guardNo rfl rfl rfl rfl rfl rfl (.guardNo rfl rfl rfl rfl rfl rfl (.guardNo rfl rfl rfl rfl rfl rfl (.guardNo rfl rfl rfl rfl rfl rfl (.guardNo rfl rfl rfl rfl rfl rfl (.guardNo rfl rfl rfl rfl rfl rfl (.pick rfl rfl rfl rfl ((.done (.thenN (.midB rfl))))))))))))))) (.done (.thenN ?_)))))))))))))))))
    refine .cond rfl (fun hb4 => ?_) (fun hb4 => ?_)
    ·
      refine .seq (.text (.as_ rfl rfl (.done (.thenN ?_))))
      refine .ret (.blkR (.thenR (.thenR (.blkR (.thenR ?_)))))
      exact J.retR rfl (by simp only [resOne, rfHas]; rw [any_of hk hb4]) (List.Sublist.refl _)
    ·
      refine .skip (.blkN (.thenN ?_))
      refine .text (.mv rfl rfl (.inc rfl rfl (by have := hs.len; unfold maxL at this; omega) rfl (.as_ rfl rfl (.done (.thenN ?_)))))
      refine J.again (k + 1) (by omega) ⟨hk, fun i hi hik => ?_⟩ (.cons rfl (.cons rfl (.cons rfl (.cons rfl (.nil _))))) rfl rfl
      by_cases e : i = k
      · subst e; exact hb4
      · exact hall i hi (by omega)
  ·
    have hk : k = W.services.length := by simp [cmpI] at hb2; omega
    refine .exit (.thenE (.thenE (.blkHit (.thenN ?_))))
    refine .seq (.text (.as_ rfl rfl (.done (.thenN ?_))))
    refine .ret ?_
    exact J.retR rfl (by simp only [resOne, rfHas]; rw [any_no fun i hi => hall i hi (by omega)]) (List.Sublist.refl _)

theorem rfws_walk {wb : Nat} {W : Rrf} {nv sv cv : Value} {h : Hp} {L : List Hp} [At h L wb (.cells ⟨rfV W nv sv cv⟩ 68 (0, 0))] (hn : SlR h 4 RNod nv W.nodes) (hs : SlR h 7 RSvc sv W.services) {s : Svc} {tv : Value} (ht : SlR h 1 RS tv s.tags) : FR Go.Proofs.Tryz.prog 75 [.pointer (some ⟨wb, 0, none⟩), .agg ⟨svcV s tv⟩] h L (.int .i64 (rfErrS W s)) := by
  refine FS.enter Go.Proofs.Tryz.func75 rfl rfl fun w0 => ?_
  obtain ⟨tA, tc, rfl⟩ := ht.form
  refine .seq (.text (.box (cs := [_, _, _, _, _, _, _]) rfl rfl rfl rfl fun b3 => .as_ rfl rfl (.done (.thenN ?_))))
  refine .seq (.seq (.text (.fa rfl rfl (.ld rfl rfl rfl rfl (.cmp rfl rfl rfl rfl (.mv rfl rfl (.or (d := 12) (g := 8) _ _ (take_drop 4) rfl rfl (fun hb1_4 => .guard rfl rfl rfl rfl (.fa rfl rfl (.guard rfl rfl rfl rfl (.ld rfl rfl rfl rfl (.guard rfl rfl rfl rfl (.cmp rfl rfl rfl rfl (.pick rfl rfl rfl rfl ((.done (.thenN (.midB rfl))))))))))) (.guardNo rfl rfl rfl rfl rfl rfl (.guardNo rfl rfl rfl rfl rfl rfl (.guardNo rfl rfl rfl rfl rfl rfl (.pick rfl rfl rfl rfl ((.done (.thenN (.midB rfl)))))))) (.mv rfl rfl (.or (d := 17) (g := 13) _ _ (take_drop 4) rfl rfl (fun hb1_9 => .guard rfl rfl rfl rfl (.fa rfl rfl (.guard rfl rfl rfl rfl (.ld rfl rfl rfl rfl (.guard rfl rfl rfl rfl (.cmp rfl rfl rfl rfl (.pick rfl rfl rfl rfl ((.done (.thenN (.midB rfl))))))))))) (.guardNo rfl rfl rfl rfl rfl rfl (.guardNo rfl rfl rfl rfl rfl rfl (.guardNo rfl rfl rfl rfl rfl rfl (.pick rfl rfl rfl rfl ((.done (.thenN (.midB rfl)))))))) (.mv rfl rfl (.or (d := 22) (g := 18) _ _ (take_drop 4) rfl rfl (fun hb1_14 => .guard rfl rfl rfl rfl (.fa rfl rfl (.guard rfl rfl rfl rfl (.ld rfl rfl rfl rfl (.guard rfl rfl rfl rfl (.cmp rfl rfl rfl rfl (.pick rfl rfl rfl rfl ((.done (.thenN (.midB rfl))))))))))) (.guardNo rfl rfl rfl rfl rfl rfl (.guardNo rfl rfl rfl rfl rfl rfl (.guardNo rfl rfl rfl rfl rfl rfl (.pick rfl rfl rfl rfl ((.done (.thenN (.midB rfl)))))))) (.done (.thenN ?_)))))))))))))
  refine .cond rfl (fun hb1 => ?_) (fun hb1 => ?_)
  ·
    refine .seq (.text (.as_ rfl rfl (.done (.thenN ?_))))
    refine .ret (.thenR ?_)
    exact J.retR rfl (by rw [rfErrS, if_pos hb1]; rfl) (.cons _ (List.Sublist.refl _))
  ·
    refine .skip (.thenN ?_)
    refine .seq (.seq (.text (.fa rfl rfl (.ld rfl rfl rfl rfl (?_)))))
    refine .callV rfl rfl right01_walk rfl rfl (.not rfl rfl (.mv rfl rfl (.or (d := 32) (g := 27) _ _ (take_drop 5) rfl rfl (fun hb3_5 => .guard rfl rfl rfl rfl (.fa rfl rfl (.guard rfl rfl rfl rfl (.ld rfl rfl rfl rfl (.guard rfl rfl rfl rfl (.callV rfl rfl right01_walk rfl rfl (.guard rfl rfl rfl rfl (.not rfl rfl (.pick rfl rfl rfl rfl ((.done (.thenN (.midB rfl))))))))))))) (.guardNo rfl rfl rfl rfl rfl rfl (.guardNo rfl rfl rfl rfl rfl rfl (.guardNo rfl rfl rfl rfl rfl rfl (.guardNo rfl rfl rfl rfl rfl rfl (.pick rfl rfl rfl rfl ((.done (.thenN (.midB rfl))))))))) (.mv rfl rfl (.or (d := 38) (g := 33) _ _ (take_drop 5) rfl rfl (fun hb3_11 => .guard rfl rfl rfl rfl (.fa rfl rfl (.guard rfl rfl rfl rfl (.ld rfl rfl rfl rfl (.guard rfl rfl rfl rfl (.callV rfl rfl (tags01_walk ht) rfl rfl (.guard rfl rfl rfl rfl (.not rfl rfl (.pick rfl rfl rfl rfl ((.done (.thenN (.midB rfl))))))))))))) (.guardNo rfl rfl rfl rfl rfl rfl (.guardNo rfl rfl rfl rfl rfl rfl (.guardNo rfl rfl rfl rfl rfl rfl (.guardNo rfl rfl rfl rfl rfl rfl (.pick rfl rfl rfl rfl ((.done (.thenN (.midB rfl))))))))) (.done (.thenN ?_)))))))
    refine .cond rfl (fun hb3 => ?_) (fun hb3 => ?_)
    ·
      refine .seq (.text (.as_ rfl rfl (.done (.thenN ?_))))
      refine .ret (.thenR ?_)
      exact J.retR rfl (by rw [rfErrS, if_neg (ifn hb1), if_pos hb3]; rfl) (.cons _ (List.Sublist.refl _))
    ·
      refine .skip (.thenN ?_)
      refine .seq (.seq (.text (.mv rfl rfl (.fa rfl rfl (.ld rfl rfl rfl rfl (?_))))))
      refine .callR rfl rfl (rfthere_walk hn hs) rfl rfl (.not rfl rfl (.done (.thenN ?_)))
      refine .cond rfl (fun hb5 => ?_) (fun hb5 => ?_)
      ·
        refine .seq (.text (.as_ rfl rfl (.done (.thenN ?_))))
        refine .ret (.thenR ?_)
        exact J.retR rfl (by rw [rfErrS, if_neg (ifn hb1), if_neg (ifn hb3), if_pos hb5]; rfl) (.cons _ (List.Sublist.refl _))
      ·
        refine .skip (.thenN ?_)
        refine .seq (.text (.as_ rfl rfl (.done (.thenN ?_))))
        refine .ret ?_
        exact J.retR rfl (by rw [rfErrS, if_neg (ifn hb1), if_neg (ifn hb3), if_neg (ifn hb5)]; rfl) (.cons _ (List.Sublist.refl _))

theorem rfwc_walk {wb : Nat} {W : Rrf} {nv sv cv : Value} {h : Hp} {L : List Hp} [At h L wb (.cells ⟨rfV W nv sv cv⟩ 68 (0, 0))] (hn : SlR h 4 RNod nv W.nodes) (hs : SlR h 7 RSvc sv W.services) {c : Chk} : FR Go.Proofs.Tryz.prog 78 [.pointer (some ⟨wb, 0, none⟩), .agg ⟨chkV c⟩] h L (.int .i64 (rfErrC W c)) := by
  refine FS.enter Go.Proofs.Tryz.func78 rfl rfl fun w0 => ?_
  refine .seq (.text (.box (cs := [_, _, _, _, _, _, _]) rfl rfl rfl rfl fun b3 => .as_ rfl rfl (.done (.thenN ?_))))
  refine .seq (.seq (.text (.fa rfl rfl (.ld rfl rfl rfl rfl (.cmp rfl rfl rfl rfl (.mv rfl rfl (.or (d := 12) (g := 8) _ _ (take_drop 4) rfl rfl (fun hb1_4 => .guard rfl rfl rfl rfl (.fa rfl rfl (.guard rfl rfl rfl rfl (.ld rfl rfl rfl rfl (.guard rfl rfl rfl rfl (.cmp rfl rfl rfl rfl (.pick rfl rfl rfl rfl ((.done (.thenN (.midB rfl))))))))))) (.guardNo rfl rfl rfl rfl rfl rfl (.guardNo rfl rfl rfl rfl rfl rfl (.guardNo rfl rfl rfl rfl rfl rfl (.pick rfl rfl rfl rfl ((.done (.thenN (.midB rfl)))))))) (.mv rfl rfl (.or (d := 17) (g := 13) _ _ (take_drop 4) rfl rfl (fun hb1_9 => .guard rfl rfl rfl rfl (.fa rfl rfl (.guard rfl rfl rfl rfl (.ld rfl rfl rfl rfl (.guard rfl rfl rfl rfl (.cmp rfl rfl rfl rfl (.pick rfl rfl rfl rfl ((.done (.thenN (.midB rfl))))))))))) (.guardNo rfl rfl rfl rfl rfl rfl (.guardNo rfl rfl rfl rfl rfl rfl (.guardNo rfl rfl rfl rfl rfl rfl (.pick rfl rfl rfl rfl ((.done (.thenN (.midB rfl)))))))) (.mv rfl rfl (.or (d := 22) (g := 18) _ _ (take_drop 4) rfl rfl (fun hb1_14 => .guard rfl rfl rfl rfl (.fa rfl rfl (.guard rfl rfl rfl rfl (.ld rfl rfl rfl rfl (.guard rfl rfl rfl rfl (.cmp rfl rfl rfl rfl (.pick rfl rfl rfl rfl ((.done (.thenN (.midB rfl))))))))))) (.guardNo rfl rfl rfl rfl rfl rfl (.guardNo rfl rfl rfl rfl rfl rfl (.guardNo rfl rfl rfl rfl rfl rfl (.pick rfl rfl rfl rfl ((.done (.thenN (.midB rfl)))))))) (.done (.thenN ?_)))))))))))))
  refine .cond rfl (fun hb1 => ?_) (fun hb1 => ?_)
  ·
    refine .seq (.text (.as_ rfl rfl (.done (.thenN ?_))))
    refine .ret (.thenR ?_)
    exact J.retR rfl (by rw [rfErrC, if_pos hb1]; rfl) (.cons _ (List.Sublist.refl _))
  ·
    refine .skip (.thenN ?_)
    refine .seq (.seq (.text (.fa rfl rfl (.ld rfl rfl rfl rfl (?_)))))
    refine .callV rfl rfl right01_walk rfl rfl (.not rfl rfl (.mv rfl rfl (.or (d := 37) (g := 27) _ _ (take_drop 10) rfl rfl (fun hb3_5 => .guard rfl rfl rfl rfl (.fa rfl rfl (.guard rfl rfl rfl rfl (.ld rfl rfl rfl rfl (.guard rfl rfl rfl rfl (.cmpS rfl rfl rfl rfl (.guard rfl rfl rfl rfl (.mv rfl rfl (.and (d := 36) (g := 31) _ _ (take_drop 5) rfl rfl (fun hb3_9 => .guard rfl rfl rfl rfl (.fa rfl rfl (.guard rfl rfl rfl rfl (.ld rfl rfl rfl rfl (.guard rfl rfl rfl rfl (.callV rfl rfl right01_walk rfl rfl (.guard rfl rfl rfl rfl (.not rfl rfl (.guard rfl rfl rfl rfl (.pick rfl rfl rfl rfl ((.done (.thenN (.midB rfl)))))))))))))) (.guardNo rfl rfl rfl rfl rfl rfl (.guardNo rfl rfl rfl rfl rfl rfl (.guardNo rfl rfl rfl rfl rfl rfl (.guardNo rfl rfl rfl rfl rfl rfl (.guard rfl rfl rfl rfl (.pick rfl rfl rfl rfl ((.done (.thenN (.midB rfl)))))))))) (.pick rfl rfl rfl rfl ((.done (.thenN (.midB rfl)))))))))))))) (.guardNo rfl rfl rfl rfl rfl rfl (.guardNo rfl rfl rfl rfl rfl rfl (.guardNo rfl rfl rfl rfl rfl rfl (.guardNo rfl rfl rfl rfl rfl rfl (.guardU rfl rfl rfl rfl rfl (.guardU rfl rfl rfl rfl rfl (.guardU rfl rfl rfl rfl rfl (.guardU rfl rfl rfl rfl rfl (.guardNo rfl rfl rfl rfl rfl rfl (.pick rfl rfl rfl rfl ((.done (.thenN (.midB rfl)))))))))))))) (.done (.thenN ?_)))))
    refine .cond rfl (fun hb3 => ?_) (fun hb3 => ?_)
    ·
      refine .seq (.text (.as_ rfl rfl (.done (.thenN ?_))))
      refine .ret (.thenR ?_)
      exact J.retR rfl (by rw [rfErrC, if_neg (ifn hb1), if_pos hb3]; rfl) (.cons _ (List.Sublist.refl _))
    ·
      refine .skip (.thenN ?_)
      refine .seq (.seq (.text (.fa rfl rfl (.ld rfl rfl rfl rfl (.lenS rfl rfl rfl (.cmp rfl rfl rfl rfl (.done (.thenN ?_))))))))
      refine .cond rfl (fun hb5 => ?_) (fun hb5 => ?_)
      ·
        refine .seq (.text (.as_ rfl rfl (.done (.thenN ?_))))
        refine .ret (.thenR ?_)
        exact J.retR rfl (by rw [rfErrC, if_neg (ifn hb1), if_neg (ifn hb3), if_pos hb5]; rfl) (.cons _ (List.Sublist.refl _))
      ·
        refine .skip (.thenN ?_)
        refine .seq (.seq (.text (.mv rfl rfl (.fa rfl rfl (.ld rfl rfl rfl rfl (?_))))))
        refine .callR rfl rfl (rfthere_walk hn hs) rfl rfl (.not rfl rfl (.mv rfl rfl (.or (d := 60) (g := 47) _ _ (take_drop 13) rfl rfl (fun hb7_6 => .guard rfl rfl rfl rfl (.fa rfl rfl (.guard rfl rfl rfl rfl (.ld rfl rfl rfl rfl (.guard rfl rfl rfl rfl (.cmpS rfl rfl rfl rfl (.guard rfl rfl rfl rfl (.mv rfl rfl (.and (d := 59) (g := 51) _ _ (take_drop 8) rfl rfl (fun hb7_10 => .guard rfl rfl rfl rfl (.mv rfl rfl (.guard rfl rfl rfl rfl (.fa rfl rfl (.guard rfl rfl rfl rfl (.ld rfl rfl rfl rfl (.guard rfl rfl rfl rfl (.fa rfl rfl (.guard rfl rfl rfl rfl (.ld rfl rfl rfl rfl (.guard rfl rfl rfl rfl (.callR rfl rfl (rfhas_walk hn hs) rfl rfl (.guard rfl rfl rfl rfl (.not rfl rfl (.guard rfl rfl rfl rfl (.pick rfl rfl rfl rfl ((.done (.thenN (.midB rfl)))))))))))))))))))) (.guardNo rfl rfl rfl rfl rfl rfl (.guardNo rfl rfl rfl rfl rfl rfl (.guardNo rfl rfl rfl rfl rfl rfl (.guardNo rfl rfl rfl rfl rfl rfl (.guardNo rfl rfl rfl rfl rfl rfl (.guardNo rfl rfl rfl rfl rfl rfl (.guardNo rfl rfl rfl rfl rfl rfl (.guard rfl rfl rfl rfl (.pick rfl rfl rfl rfl ((.done (.thenN (.midB rfl))))))))))))) (.pick rfl rfl rfl rfl ((.done (.thenN (.midB rfl)))))))))))))) (.guardNo rfl rfl rfl rfl rfl rfl (.guardNo rfl rfl rfl rfl rfl rfl (.guardNo rfl rfl rfl rfl rfl rfl (.guardNo rfl rfl rfl rfl rfl rfl (.guardU rfl rfl rfl rfl rfl (.guardU rfl rfl rfl rfl rfl (.guardU rfl rfl rfl rfl rfl (.guardU rfl rfl rfl rfl rfl (.guardU rfl rfl rfl rfl rfl (.guardU rfl rfl rfl rfl rfl (.guardU rfl rfl rfl rfl rfl (.guardNo rfl rfl rfl rfl rfl rfl (.pick rfl rfl rfl rfl ((.done (.thenN (.midB rfl))))))))))))))))) (.done (.thenN ?_)))))
        refine .cond rfl (fun hb7 => ?_) (fun hb7 => ?_)
        ·
          refine .seq (.text (.as_ rfl rfl (.done (.thenN ?_))))
          refine .ret (.thenR ?_)
          exact J.retR rfl (by rw [rfErrC, if_neg (ifn hb1), if_neg (ifn hb3), if_neg (ifn hb5), if_pos hb7]; rfl) (.cons _ (List.Sublist.refl _))
        ·
          refine .skip (.thenN ?_)
          refine .seq (.text (.as_ rfl rfl (.done (.thenN ?_))))
          refine .ret ?_
          exact J.retR rfl (by rw [rfErrC, if_neg (ifn hb1), if_neg (ifn hb3), if_neg (ifn hb5), if_neg (ifn hb7)]; rfl) (.cons _ (List.Sublist.refl _))
end Go.Sod
