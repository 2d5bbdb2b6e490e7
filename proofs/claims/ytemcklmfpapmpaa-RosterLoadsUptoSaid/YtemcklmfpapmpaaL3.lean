/-
  The document's Load, walked. Conditions: none.
-/
import Derived.Test.YtemcklmfpapmpaaL2
namespace Go.Sod
set_option linter.unusedVariables false
set_option linter.unusedSimpArgs false
set_option maxRecDepth 10000
set_option maxHeartbeats 4000000

def loadW3 (l0 l1 l2 : Int) : Option Rrf → Option Rrf
  | none => none
  | some W => some { W with l0 := l0, l1 := l1, l2 := l2 }
def loadW2 (cs : List Chk) (l0 l1 l2 : Int) : Option Rrf → Option Rrf
  | none => none
  | some W => loadW3 l0 l1 l2 (rfGo stgC l2 none cs W)
def loadW1 (ss : List Svc) (cs : List Chk) (l0 l1 l2 : Int) : Option Rrf → Option Rrf
  | none => none
  | some W => loadW2 cs l0 l1 l2 (rfGo stgS l1 none ss W)
theorem loadW_eq {most : Int} {ns : List Nod} {ss : List Svc} {cs : List Chk} {l0 l1 l2 : Int} : loadW most ns ss cs l0 l1 l2 = loadW1 ss cs l0 l1 l2 (rfGo stgN l0 none ns (tellR (rst0 (clampM most)))) := by
  unfold loadW loadW1
  have : tellR (rst0 (clampM most)) = ⟨clampM most, [], [], [], 0, 0, 0⟩ := rfl
  rw [this]
  cases rfGo stgN l0 none ns ⟨clampM most, [], [], [], 0, 0, 0⟩ with
  | none => rfl
  | some W1 =>
    dsimp only
    unfold loadW2
    cases rfGo stgS l1 none ss W1 with
    | none => rfl
    | some W2 =>
      dsimp only
      unfold loadW3
      cases rfGo stgC l2 none cs W2 <;> rfl
def rfB3 {α : Type} (S : Stg α) (last : Int) (prev : Option α) (x : α) : Bool := (pbO S prev x || decide (S.ix x < S.made x)) || decide (last < S.ix x)
theorem rfBad_eq {α : Type} (S : Stg α) (last : Int) (prev : Option α) (x : α) (W : Rrf) : rfBad S last prev x W = ((rfB3 S last prev x || !decide (S.E' W x = 0)) || !decide (S.E' (S.W' W x (S.made x)) x = 0)) := rfl
theorem prev_eq {α : Type} (S : Stg α) {xs : List α} {k : Nat} {x : α} (hk : k - 1 < xs.length) : (decide ((0 : Int) < (k : Int)) && S.pb xs[k - 1] x) = pbO S (prevO xs k) x := by
  cases k with
  | zero => rfl
  | succ k =>
    have hk' : k < xs.length := by simpa using hk
    simp only [prevO, List.getElem?_eq_getElem hk', pbO]
    have : decide ((0 : Int) < ((k + 1 : Nat) : Int)) = true := decide_eq_true (by omega)
    rw [this, Bool.true_and]
    rfl
theorem rfGo_at {α : Type} {S : Stg α} {last : Int} {xs : List α} {k : Nat} {W : Rrf} (hk : k < xs.length) : rfGo S last (prevO xs k) (xs.drop k) W = if rfBad S last (prevO xs k) xs[k] W = true then none else rfGo S last (prevO xs (k + 1)) (xs.drop (k + 1)) (S.W' (S.W' W xs[k] (S.made xs[k])) xs[k] (S.ix xs[k])) := by
  rw [List.drop_eq_getElem_cons hk]
  have : prevO xs (k + 1) = some xs[k] := List.getElem?_eq_getElem hk
  rw [this]; rfl
def loadWRes (o : Option Rrf) (v : Value) (h : Hp) (ms : List Hp) : Prop := match o with
  | none => v = .pointer none ∧ ms = []
  | some W => ∃ wb m, v = .pointer (some ⟨wb, 0, none⟩) ∧ ms = [m] ∧ Rb m h wb W
/-- what is laid is again what a roster tells -/
theorem tell2 {α : Type} {S : Stg α} (ok : StgOk S) {R : Rst} {x : α} {i j : Int} (k : RKey R) (w : RWf R) : S.W' (S.W' (tellR R) x i) x j = tellR (S.N (S.N R x i) x j) ∧ RKey (S.N (S.N R x i) x j) ∧ RWf (S.N (S.N R x i) x j) := by
  rw [ok.w R x i k w, ok.w _ x j (ok.key _ x i k) (ok.wf _ x i w)]
  exact ⟨rfl, ok.key _ x j (ok.key _ x i k), ok.wf _ x j (ok.wf _ x i w)⟩

theorem rfload_walk {h : Hp} {most : Int} {nv sv cv : Value} {ns : List Nod} {ss : List Svc} {cs : List Chk} {l0 l1 l2 : Int} (hn : SlR h 4 RNod nv ns) (hs : SlR h 7 RSvc sv ss) (hc : SlR h 7 RChk cv cs) : FS Go.Proofs.Try.prog 5 [.int .i64 most, nv, sv, cv, .agg ⟨[.int .u64 l0, .int .u64 l1, .int .u64 l2]⟩] h [] (loadWRes (loadW most ns ss cs l0 l1 l2)) := by
  refine FS.enter Go.Proofs.Try.func5 rfl rfl fun w0 => ?_
  refine .seq (.text (.box (cs := [_, _, _]) rfl rfl rfl rfl fun b9 => .as_ rfl rfl (.done (.thenN ?_))))
  refine .seq (.text (.mv rfl rfl (?_)))
  refine .call0 rfl rfl rfnew_walk rfl rfl fun u19 h19 ms19 hl19 hu19 => ?_
  obtain ⟨e19, wb, rfl, rfl⟩ := hu19
  replace e19 := e19.symm
  subst e19
  simp only [List.singleton_append]
  have hWb : Rb (one wb (.cells ⟨rfV (tellR (rst0 (clampM most))) (.slice none 0 0) (.slice none 0 0) (.slice none 0 0)⟩ 76 (0, 0))) h wb (tellR (rst0 (clampM most))) := ⟨_, _, _, rfl, SlR.nil _ _ _, SlR.nil _ _ _, SlR.nil _ _ _⟩
  have hcl : 1 ≤ clampM most ∧ clampM most ≤ 64 := by rw [clampM_eq]; omega
  refine .as_ rfl rfl (.done (.thenN ?_))
  refine .seq (.seq (.text (.as_ rfl rfl (.done (.thenN ?_)))))
  refine .block (?_)
  refine J.loop (ι := Nat × Rst × Hp × Hp) (fun i => i.1 ≤ ns.length ∧ h.le i.2.2.2 ∧ Rb i.2.2.1 i.2.2.2 wb (tellR i.2.1) ∧ RKey i.2.1 ∧ RWf i.2.1 ∧ loadW most ns ss cs l0 l1 l2 = loadW1 ss cs l0 l1 l2 (rfGo stgN l0 (prevO ns i.1) (ns.drop i.1) (tellR i.2.1))) (fun i => [(1, nv), (2, sv), (3, cv), (9, .pointer (some ⟨b9, 0, none⟩)), (11, .pointer (some ⟨wb, 0, none⟩)), (12, .int .i64 (i.1 : Int))]) (fun i => i.2.2.2) (fun i => [i.2.2.1, one b9 (.cells ⟨[.int .u64 l0, .int .u64 l1, .int .u64 l2]⟩ 26 (0, 0))]) (fun i => ns.length - i.1) (0, rst0 (clampM most), one wb (.cells ⟨rfV (tellR (rst0 (clampM most))) (.slice none 0 0) (.slice none 0 0) (.slice none 0 0)⟩ 76 (0, 0)), h) ⟨by simp, Hp.le_refl _, hWb, rst0_key _, rst0_wf hcl.1 hcl.2, loadW_eq⟩ (.cons rfl (.cons rfl (.cons rfl (.cons rfl (.cons rfl (.cons rfl (.nil _))))))) rfl rfl ?_
  rintro ⟨k, R, m, h1⟩ ⟨hk0, hl1, hW, hkey, hwf, hinv⟩
  dsimp only at hk0 hl1 hW hkey hwf hinv ⊢
  have hx := hn.mono RNod.mono hl1
  refine .seq (.seq (.text (.mv rfl rfl (.mv rfl rfl (.len hx rfl rfl rfl (.cmp rfl rfl rfl rfl (.done (.thenN ?_))))))))
  refine .cond rfl (fun hb3 => ?_) (fun hb3 => ?_)
  ·
    have hk : k < ns.length := by simp [cmpI] at hb3; omega
    rw [rfGo_at hk] at hinv
    obtain ⟨e2, key2, wf2⟩ := tell2 (x := ns[k]) (i := stgN.made ns[k]) (j := stgN.ix ns[k]) stgN_ok hkey hwf
    have e1 := stgN_ok.w R ns[k] (stgN.made ns[k]) hkey hwf
    have wf1 := stgN_ok.wf R ns[k] (stgN.made ns[k]) hwf
    rw [e2] at hinv
    refine .skip (.thenN ?_)
    refine .seq (.block (.seq (.text (.mv rfl rfl (.mv rfl rfl (.ix (i := k) hx rfl rfl rfl hk rfl (.ldE hx hk rfl rfl rfl fun vs hvs => ?_)))))))
    obtain rfl := hvs
    refine .alloc (cs := [_, _, _, _]) rfl rfl rfl fun b13 => .stW rfl rfl rfl rfl rfl rfl (.done (.thenN ?_))
    refine .seq (.draw [(0, .pure), (1, .pure), (2, .pure), (3, .pure), (4, .pure), (5, .pure), (6, .pure), (7, .pure), (8, .read), (9, .pure), (10, .read), (11, .pure), (12, .pure), (13, .pure), (14, .pure), (15, .read), (16, .pure), (17, .read), (18, .pure), (19, .pure), (20, .pure), (21, .pure), (22, .read), (23, .pure), (24, .read), (25, .pure), (26, .pure), (27, .pure), (28, .pure), (29, .pure), (30, .read), (31, .pure), (32, .read), (33, .pure), (34, .read), (35, .mut), (36, .pure), (37, .pure), (38, .pure), (39, .pure), (40, .pure), (41, .read), (42, .pure), (43, .read), (44, .pure), (45, .read), (46, .mut), (47, .pure), (48, .pure)] rfl (by kernel_rfl) (.mv rfl rfl (.cmp rfl rfl rfl rfl (.mv rfl rfl (.and (d := 42) (g := 32) _ _ (take_drop 10) rfl rfl (fun hb6_3 => .guard rfl rfl rfl rfl (.mv rfl rfl (.guard rfl rfl rfl rfl (.mv rfl rfl (.guard rfl rfl rfl rfl (.dec rfl rfl (by simp [cmpI] at hb6_3; omega) (by have := hx.len; unfold maxL at this; omega) rfl (.guard rfl rfl rfl rfl (.ix (i := k - 1) hx rfl rfl rfl (by omega) rfl (.guard rfl rfl rfl rfl (.faE rfl (hx.ne (by omega)) rfl (.guard rfl rfl rfl rfl (.ldG (i := k - 1) (.int .i64 (ns[k - 1]'(by omega)).node) hx (by omega) rfl (fun vs e => by obtain rfl := e; rfl) rfl rfl (.guard rfl rfl rfl rfl (.fa rfl rfl (.guard rfl rfl rfl rfl (.ld rfl rfl rfl rfl (.guard rfl rfl rfl rfl (.cmp rfl rfl rfl rfl (.pick rfl rfl rfl rfl ((.done (.thenN (.midB rfl))))))))))))))))))))))) (.guardNo rfl rfl rfl rfl rfl rfl (.guardNo rfl rfl rfl rfl rfl rfl (.guardNo rfl rfl rfl rfl rfl rfl (.guardNo rfl rfl rfl rfl rfl rfl (.guardNo rfl rfl rfl rfl rfl rfl (.guardNo rfl rfl rfl rfl rfl rfl (.guardNo rfl rfl rfl rfl rfl rfl (.guardNo rfl rfl rfl rfl rfl rfl (.guardNo rfl rfl rfl rfl rfl rfl (.pick rfl rfl rfl rfl ((.done (.thenN (.midB rfl)))))))))))))) (.mv rfl rfl (.or (d := 49) (g := 43) _ _ (take_drop 6) rfl rfl (fun hb6_14 => .guard rfl rfl rfl rfl (.fa rfl rfl (.guard rfl rfl rfl rfl (.ld rfl rfl rfl rfl (.guard rfl rfl rfl rfl (.fa rfl rfl (.guard rfl rfl rfl rfl (.ld rfl rfl rfl rfl (.guard rfl rfl rfl rfl (.cmp rfl rfl rfl rfl (.pick rfl rfl rfl rfl ((.done (.thenN (.midB rfl))))))))))))))) (.guardNo rfl rfl rfl rfl rfl rfl (.guardNo rfl rfl rfl rfl rfl rfl (.guardNo rfl rfl rfl rfl rfl rfl (.guardNo rfl rfl rfl rfl rfl rfl (.guardNo rfl rfl rfl rfl rfl rfl (.pick rfl rfl rfl rfl ((.done (.thenN (.midB rfl)))))))))) (.mv rfl rfl (.or (d := 56) (g := 50) _ _ (take_drop 6) rfl rfl (fun hb6_21 => .guard rfl rfl rfl rfl (.fa rfl rfl (.guard rfl rfl rfl rfl (.ld rfl rfl rfl rfl (.guard rfl rfl rfl rfl (.ixA (i := 0) rfl rfl rfl (by decide) rfl (.guard rfl rfl rfl rfl (.ld rfl rfl rfl rfl (.guard rfl rfl rfl rfl (.cmp rfl rfl rfl rfl (.pick rfl rfl rfl rfl ((.done (.thenN (.midB rfl))))))))))))))) (.guardNo rfl rfl rfl rfl rfl rfl (.guardNo rfl rfl rfl rfl rfl rfl (.guardNo rfl rfl rfl rfl rfl rfl (.guardNo rfl rfl rfl rfl rfl rfl (.guardNo rfl rfl rfl rfl rfl rfl (.pick rfl rfl rfl rfl ((.done (.thenN (.midB rfl)))))))))) (.mv rfl rfl (?_)))))))))))
    refine J.as (t := 57) (u := .bool (rfB3 stgN l0 (prevO ns k) ns[k])) rfl (by rw [rfB3, ← prev_eq stgN (show k - 1 < ns.length by omega)]; rfl) ?_
    refine .grpG (ι := Hp × Hp) (fun i => h1.le i.2 ∧ Rb i.1 i.2 wb (if rfB3 stgN l0 (prevO ns k) ns[k] = true then tellR R else (tellR (stgN.N R ns[k] (stgN.made ns[k]))))) (fun _ => (rfB3 stgN l0 (prevO ns k) ns[k] || !decide ((stgN.E' · ns[k]) (tellR R) = 0))) (fun i => i.2) (fun i => [one b13 (.cells ⟨nodV ns[k]⟩ 50 (0, 0)), i.1, one b9 (.cells ⟨[.int .u64 l0, .int .u64 l1, .int .u64 l2]⟩ 26 (0, 0))]) (d := 67) _ _ (take_drop 10) rfl ?_ ?_
    ·
      refine J.split (t := 57) rfl (fun hb6_28 => ?_) (fun hb6_28 => ?_)
      ·
        refine .guardNo rfl rfl rfl rfl rfl rfl (.guardNo rfl rfl rfl rfl rfl rfl (.guardNo rfl rfl rfl rfl rfl rfl (.guardNo rfl rfl rfl rfl rfl rfl (.guardNo rfl rfl rfl rfl rfl rfl (.guardNo rfl rfl rfl rfl rfl rfl (.guardNo rfl rfl rfl rfl rfl rfl (.guardNo rfl rfl rfl rfl rfl rfl (.guardNo rfl rfl rfl rfl rfl rfl (.pick rfl rfl rfl rfl ((.done (.thenN ?_))))))))))))
        refine J.midG (m, h1) ⟨?_, ?_⟩ ?_ rfl rfl
        · exact Hp.le_refl _
        · dsimp only; rw [if_pos hb6_28]; exact hW
        · rw [show (rfB3 stgN l0 (prevO ns k) ns[k]) = true from hb6_28]; rfl
      ·
        refine .guard rfl rfl rfl rfl (.mv rfl rfl (.guard rfl rfl rfl rfl (.fa rfl rfl (.guard rfl rfl rfl rfl (.ld rfl rfl rfl rfl (.guard rfl rfl rfl rfl (.fa rfl rfl (.guard rfl rfl rfl rfl (.ld rfl rfl rfl rfl (.guard rfl rfl rfl rfl (.fa rfl rfl (.guard rfl rfl rfl rfl (.ld rfl rfl rfl rfl (.guard rfl rfl rfl rfl (?_)))))))))))))))
        refine .callM rfl rfl (rfnode_walk (n := ns[k].node) (addr := ns[k].addr) (ix := ns[k].made) hW hwf.rf) rfl rfl fun ua ha ma hla hua => ?_
        obtain ⟨rfl, hWa⟩ := hua
        rw [show rfNodeW (tellR R) ns[k].node ns[k].addr ns[k].made = _ from e1] at hWa
        refine .guard rfl rfl rfl rfl (.cmp rfl rfl rfl rfl (.pick rfl rfl rfl rfl ((.done (.thenN ?_)))))
        refine J.midG (ma, ha) ⟨?_, ?_⟩ ?_ rfl rfl
        · exact hla
        · dsimp only; rw [if_neg (ifn hb6_28)]; exact hWa
        · rw [show (rfB3 stgN l0 (prevO ns k) ns[k]) = false from hb6_28]; rfl
    rintro ⟨m3, h3⟩ ⟨hl3, hW3⟩
    dsimp only at hl3 hW3 ⊢
    refine .mv rfl rfl (.grpG (ι := Hp × Hp) (fun i => h1.le i.2 ∧ ((rfB3 stgN l0 (prevO ns k) ns[k] || !decide ((stgN.E' · ns[k]) (tellR R) = 0)) = false → Rb i.1 i.2 wb (tellR (stgN.N (stgN.N R ns[k] (stgN.made ns[k])) ns[k] (stgN.ix ns[k]))))) (fun _ => ((rfB3 stgN l0 (prevO ns k) ns[k] || !decide ((stgN.E' · ns[k]) (tellR R) = 0)) || !decide ((stgN.E' · ns[k]) (tellR (stgN.N R ns[k] (stgN.made ns[k]))) = 0))) (fun i => i.2) (fun i => [one b13 (.cells ⟨nodV ns[k]⟩ 50 (0, 0)), i.1, one b9 (.cells ⟨[.int .u64 l0, .int .u64 l1, .int .u64 l2]⟩ 26 (0, 0))]) (d := 78) _ _ (take_drop 10) rfl ?_ ?_)
    ·
      refine J.split (t := 68) rfl (fun hb6_39 => ?_) (fun hb6_39 => ?_)
      ·
        refine .guardNo rfl rfl rfl rfl rfl rfl (.guardNo rfl rfl rfl rfl rfl rfl (.guardNo rfl rfl rfl rfl rfl rfl (.guardNo rfl rfl rfl rfl rfl rfl (.guardNo rfl rfl rfl rfl rfl rfl (.guardNo rfl rfl rfl rfl rfl rfl (.guardNo rfl rfl rfl rfl rfl rfl (.guardNo rfl rfl rfl rfl rfl rfl (.guardNo rfl rfl rfl rfl rfl rfl (.pick rfl rfl rfl rfl ((.done (.thenN ?_))))))))))))
        refine J.midG (m3, h3) ⟨?_, fun e => ?_⟩ ?_ rfl rfl
        · exact hl3
        · rw [show (rfB3 stgN l0 (prevO ns k) ns[k] || !decide ((stgN.E' · ns[k]) (tellR R) = 0)) = true from hb6_39] at e; cases e
        · rw [show (rfB3 stgN l0 (prevO ns k) ns[k] || !decide ((stgN.E' · ns[k]) (tellR R) = 0)) = true from hb6_39]; rfl
      ·
        have hB3 : (rfB3 stgN l0 (prevO ns k) ns[k]) = false := (Bool.or_eq_false_iff.1 hb6_39).1
        rw [if_neg (ifn hB3)] at hW3
        refine .guard rfl rfl rfl rfl (.mv rfl rfl (.guard rfl rfl rfl rfl (.fa rfl rfl (.guard rfl rfl rfl rfl (.ld rfl rfl rfl rfl (.guard rfl rfl rfl rfl (.fa rfl rfl (.guard rfl rfl rfl rfl (.ld rfl rfl rfl rfl (.guard rfl rfl rfl rfl (.fa rfl rfl (.guard rfl rfl rfl rfl (.ld rfl rfl rfl rfl (.guard rfl rfl rfl rfl (?_)))))))))))))))
        refine .callM rfl rfl (rfnode_walk (n := ns[k].node) (addr := ns[k].addr) (ix := ns[k].ix) hW3 wf1.rf) rfl rfl fun ub hb_ mb hlb hub => ?_
        obtain ⟨rfl, hWb2⟩ := hub
        rw [← show stgN.W' (tellR R) ns[k] (stgN.made ns[k]) = _ from e1, show rfNodeW (stgN.W' (tellR R) ns[k] (stgN.made ns[k])) ns[k].node ns[k].addr ns[k].ix = _ from e2] at hWb2
        refine .guard rfl rfl rfl rfl (.cmp rfl rfl rfl rfl (.pick rfl rfl rfl rfl ((.done (.thenN ?_)))))
        refine J.midG (mb, hb_) ⟨?_, fun _ => ?_⟩ ?_ rfl rfl
        · exact Hp.le_trans hl3 hlb
        · exact hWb2
        · rw [show (rfB3 stgN l0 (prevO ns k) ns[k] || !decide ((stgN.E' · ns[k]) (tellR R) = 0)) = false from hb6_39]; rfl
    rintro ⟨m5, h5⟩ ⟨hl5', hW5'⟩
    dsimp only at hl5' hW5' ⊢
    refine .done (.thenN ?_)
    refine .cond rfl (fun hb6 => ?_) (fun hb6 => ?_)
    ·
      have hbad : rfBad stgN l0 (prevO ns k) ns[k] (tellR R) = true := by rw [rfBad_eq, e1]; exact hb6
      refine .seq (.text (.as_ rfl rfl (.done (.thenN ?_))))
      refine .ret (.blkR (.thenR (.thenR (.blkR (.thenR ?_)))))
      refine J.retTmp rfl (List.nil_sublist _) ?_
      rw [hinv, if_pos hbad]
      exact ⟨rfl, rfl⟩
    ·
      have hbad : rfBad stgN l0 (prevO ns k) ns[k] (tellR R) = false := by rw [rfBad_eq, e1]; exact hb6
      rw [if_neg (ifn hbad)] at hinv
      have hW5 := hW5' (Bool.or_eq_false_iff.1 hb6).1
      have hl5 := Hp.le_trans hl1 hl5'
      refine .skip (.blkN (.thenN ?_))
      refine .text (.mv rfl rfl (.inc rfl rfl (by have := hx.len; unfold maxL at this; omega) rfl (.as_ rfl rfl (.done (.thenN ?_)))))
      refine J.dropF 1 (J.again (k + 1, _, m5, h5) (by dsimp only; omega) ⟨hk, hl5, hW5, key2, wf2, hinv⟩ (.cons rfl (.cons rfl (.cons rfl (.cons rfl (.cons rfl (.cons rfl (.nil _))))))) rfl rfl)
  ·
    have hk : k = ns.length := by simp [cmpI] at hb3; omega
    subst hk
    rw [List.drop_length] at hinv
    replace hinv : loadW most ns ss cs l0 l1 l2 = loadW2 cs l0 l1 l2 (rfGo stgS l1 (prevO ss 0) (ss.drop 0) (tellR R)) := hinv
    refine .exit (.thenE (.thenE (.blkHit (.thenN ?_))))
    refine .seq (.seq (.text (.as_ rfl rfl (.done (.thenN ?_)))))
    refine .block (?_)
    refine J.loop (ι := Nat × Rst × Hp × Hp) (fun i => i.1 ≤ ss.length ∧ h.le i.2.2.2 ∧ Rb i.2.2.1 i.2.2.2 wb (tellR i.2.1) ∧ RKey i.2.1 ∧ RWf i.2.1 ∧ loadW most ns ss cs l0 l1 l2 = loadW2 cs l0 l1 l2 (rfGo stgS l1 (prevO ss i.1) (ss.drop i.1) (tellR i.2.1))) (fun i => [(2, sv), (3, cv), (9, .pointer (some ⟨b9, 0, none⟩)), (11, .pointer (some ⟨wb, 0, none⟩)), (14, .int .i64 (i.1 : Int))]) (fun i => i.2.2.2) (fun i => [i.2.2.1, one b9 (.cells ⟨[.int .u64 l0, .int .u64 l1, .int .u64 l2]⟩ 26 (0, 0))]) (fun i => ss.length - i.1) (0, R, m, h1) ⟨by simp, hl1, hW, hkey, hwf, hinv⟩ (.cons rfl (.cons rfl (.cons rfl (.cons rfl (.cons rfl (.nil _)))))) rfl rfl ?_
    rintro ⟨k, R, m, h1⟩ ⟨hk0, hl1, hW, hkey, hwf, hinv⟩
    dsimp only at hk0 hl1 hW hkey hwf hinv ⊢
    have hx := hs.mono RSvc.mono hl1
    refine .seq (.seq (.text (.mv rfl rfl (.mv rfl rfl (.len hx rfl rfl rfl (.cmp rfl rfl rfl rfl (.done (.thenN ?_))))))))
    refine .cond rfl (fun hb9 => ?_) (fun hb9 => ?_)
    ·
      have hk : k < ss.length := by simp [cmpI] at hb9; omega
      rw [rfGo_at hk] at hinv
      obtain ⟨e2, key2, wf2⟩ := tell2 (x := ss[k]) (i := stgS.made ss[k]) (j := stgS.ix ss[k]) stgS_ok hkey hwf
      have e1 := stgS_ok.w R ss[k] (stgS.made ss[k]) hkey hwf
      have wf1 := stgS_ok.wf R ss[k] (stgS.made ss[k]) hwf
      rw [e2] at hinv
      refine .skip (.thenN ?_)
      refine .seq (.block (.seq (.text (.mv rfl rfl (.mv rfl rfl (.ix (i := k) hx rfl rfl rfl hk rfl (.ldE hx hk rfl rfl rfl fun vs hvs => ?_)))))))
      obtain ⟨tv, rfl, htv⟩ := hvs
      obtain ⟨tA, tc, rfl⟩ := htv.form
      refine .alloc (cs := [_, _, _, _, _, _, _]) rfl rfl rfl fun b15 => .stW rfl rfl rfl rfl rfl rfl (.done (.thenN ?_))
      refine .seq (.seq (.draw [(0, .pure), (1, .pure), (2, .pure), (3, .pure), (4, .pure), (5, .pure), (6, .pure), (7, .pure), (8, .read), (9, .pure), (10, .read), (11, .pure), (12, .pure), (13, .pure), (14, .pure), (15, .pure), (16, .pure), (17, .pure), (18, .read), (19, .pure), (20, .read), (21, .pure), (22, .pure), (23, .pure), (24, .pure), (25, .pure), (26, .pure), (27, .pure), (28, .read), (29, .pure), (30, .read), (31, .pure), (32, .pure), (33, .pure), (34, .pure)] rfl (by kernel_rfl) (.mv rfl rfl (.cmp rfl rfl rfl rfl (.mv rfl rfl (.and (d := 123) (g := 91) _ _ (take_drop 32) rfl rfl (fun hb12_3 => .guard rfl rfl rfl rfl (.mv rfl rfl (.guard rfl rfl rfl rfl (.mv rfl rfl (.guard rfl rfl rfl rfl (.dec rfl rfl (by simp [cmpI] at hb12_3; omega) (by have := hx.len; unfold maxL at this; omega) rfl (.guard rfl rfl rfl rfl (.ix (i := k - 1) hx rfl rfl rfl (by omega) rfl (.guard rfl rfl rfl rfl (.faE rfl (hx.ne (by omega)) rfl (.guard rfl rfl rfl rfl (.ldG (i := k - 1) (.int .i64 (ss[k - 1]'(by omega)).node) hx (by omega) rfl (fun vs e => by obtain ⟨tv, rfl, _⟩ := e; rfl) rfl rfl (.guard rfl rfl rfl rfl (.fa rfl rfl (.guard rfl rfl rfl rfl (.ld rfl rfl rfl rfl (.guard rfl rfl rfl rfl (.cmp rfl rfl rfl rfl (.guard rfl rfl rfl rfl (.mv rfl rfl (.or (d := 122) (g := 101) _ _ (take_drop 21) rfl rfl (fun hb12_13 => .guard rfl rfl rfl rfl (.mv rfl rfl (.guard rfl rfl rfl rfl (.mv rfl rfl (.guard rfl rfl rfl rfl (.dec rfl rfl (by simp [cmpI] at hb12_3; omega) (by have := hx.len; unfold maxL at this; omega) rfl (.guard rfl rfl rfl rfl (.ix (i := k - 1) hx rfl rfl rfl (by omega) rfl (.guard rfl rfl rfl rfl (.faE rfl (hx.ne (by omega)) rfl (.guard rfl rfl rfl rfl (.ldG (i := k - 1) (.int .i64 (ss[k - 1]'(by omega)).node) hx (by omega) rfl (fun vs e => by obtain ⟨tv, rfl, _⟩ := e; rfl) rfl rfl (.guard rfl rfl rfl rfl (.fa rfl rfl (.guard rfl rfl rfl rfl (.ld rfl rfl rfl rfl (.guard rfl rfl rfl rfl (.cmp rfl rfl rfl rfl (.guard rfl rfl rfl rfl (.mv rfl rfl (.and (d := 121) (g := 111) _ _ (take_drop 10) rfl rfl (fun hb12_23 => .guard rfl rfl rfl rfl (.mv rfl rfl (.guard rfl rfl rfl rfl (.mv rfl rfl (.guard rfl rfl rfl rfl (.dec rfl rfl (by simp [cmpI] at hb12_3; omega) (by have := hx.len; unfold maxL at this; omega) rfl (.guard rfl rfl rfl rfl (.ix (i := k - 1) hx rfl rfl rfl (by omega) rfl (.guard rfl rfl rfl rfl (.faE rfl (hx.ne (by omega)) rfl (.guard rfl rfl rfl rfl (.ldG (i := k - 1) (.string (ss[k - 1]'(by omega)).id) hx (by omega) rfl (fun vs e => by obtain ⟨tv, rfl, _⟩ := e; rfl) rfl rfl (.guard rfl rfl rfl rfl (.fa rfl rfl (.guard rfl rfl rfl rfl (.ld rfl rfl rfl rfl (.guard rfl rfl rfl rfl (.cmpS rfl rfl rfl rfl (.guard rfl rfl rfl rfl (.pick rfl rfl rfl rfl ((.done (.thenN (.midB rfl)))))))))))))))))))))))) (.guardNo rfl rfl rfl rfl rfl rfl (.guardNo rfl rfl rfl rfl rfl rfl (.guardNo rfl rfl rfl rfl rfl rfl (.guardNo rfl rfl rfl rfl rfl rfl (.guardNo rfl rfl rfl rfl rfl rfl (.guardNo rfl rfl rfl rfl rfl rfl (.guardNo rfl rfl rfl rfl rfl rfl (.guardNo rfl rfl rfl rfl rfl rfl (.guardNo rfl rfl rfl rfl rfl rfl (.guard rfl rfl rfl rfl (.pick rfl rfl rfl rfl ((.done (.thenN (.midB rfl))))))))))))))) (.guard rfl rfl rfl rfl (.pick rfl rfl rfl rfl ((.done (.thenN (.midB rfl))))))))))))))))))))))))))) (.guardNo rfl rfl rfl rfl rfl rfl (.guardNo rfl rfl rfl rfl rfl rfl (.guardNo rfl rfl rfl rfl rfl rfl (.guardNo rfl rfl rfl rfl rfl rfl (.guardNo rfl rfl rfl rfl rfl rfl (.guardNo rfl rfl rfl rfl rfl rfl (.guardNo rfl rfl rfl rfl rfl rfl (.guardNo rfl rfl rfl rfl rfl rfl (.guardNo rfl rfl rfl rfl rfl rfl (.guardNo rfl rfl rfl rfl rfl rfl (.guardU rfl rfl rfl rfl rfl (.guardU rfl rfl rfl rfl rfl (.guardU rfl rfl rfl rfl rfl (.guardU rfl rfl rfl rfl rfl (.guardU rfl rfl rfl rfl rfl (.guardU rfl rfl rfl rfl rfl (.guardU rfl rfl rfl rfl rfl (.guardU rfl rfl rfl rfl rfl (.guardU rfl rfl rfl rfl rfl (.guardNo rfl rfl rfl rfl rfl rfl (.guard rfl rfl rfl rfl (.pick rfl rfl rfl rfl ((.done (.thenN (.midB rfl)))))))))))))))))))))))))) (.pick rfl rfl rfl rfl ((.done (.thenN (.midB rfl)))))))))))))))))))))))))) (.guardNo rfl rfl rfl rfl rfl rfl (.guardNo rfl rfl rfl rfl rfl rfl (.guardNo rfl rfl rfl rfl rfl rfl (.guardNo rfl rfl rfl rfl rfl rfl (.guardNo rfl rfl rfl rfl rfl rfl (.guardNo rfl rfl rfl rfl rfl rfl (.guardNo rfl rfl rfl rfl rfl rfl (.guardNo rfl rfl rfl rfl rfl rfl (.guardNo rfl rfl rfl rfl rfl rfl (.guardNo rfl rfl rfl rfl rfl rfl (.guardU rfl rfl rfl rfl rfl (.guardU rfl rfl rfl rfl rfl (.guardU rfl rfl rfl rfl rfl (.guardU rfl rfl rfl rfl rfl (.guardU rfl rfl rfl rfl rfl (.guardU rfl rfl rfl rfl rfl (.guardU rfl rfl rfl rfl rfl (.guardU rfl rfl rfl rfl rfl (.guardU rfl rfl rfl rfl rfl (.guardU rfl rfl rfl rfl rfl (.guardU rfl rfl rfl rfl rfl (.guardU rfl rfl rfl rfl rfl (.guardU rfl rfl rfl rfl rfl (.guardU rfl rfl rfl rfl rfl (.guardU rfl rfl rfl rfl rfl (.guardU rfl rfl rfl rfl rfl (.guardU rfl rfl rfl rfl rfl (.guardU rfl rfl rfl rfl rfl (.guardU rfl rfl rfl rfl rfl (.guardU rfl rfl rfl rfl rfl (.guardNo rfl rfl rfl rfl rfl rfl (.pick rfl rfl rfl rfl ((.done (.thenN (.midB rfl)))))))))))))))))))))))))))))))))))) (.done (.thenN ?_))))))))
      refine .cond rfl (fun hb12 => ?_) (fun hb12 => ?_)
      ·
        have hp : pbO stgS (prevO ss k) ss[k] = true := (prev_eq stgS (x := ss[k]) (show k - 1 < ss.length by omega)).symm.trans hb12
        have hbad : rfBad stgS l1 (prevO ss k) ss[k] (tellR R) = true := by rw [rfBad_eq, rfB3, hp]; rfl
        refine .seq (.text (.as_ rfl rfl (.done (.thenN ?_))))
        refine .ret (.thenR (.blkR (.thenR (.thenR (.blkR (.thenR ?_))))))
        refine J.retTmp rfl (List.nil_sublist _) ?_
        rw [hinv, if_pos hbad]
        exact ⟨rfl, rfl⟩
      ·
        have hp : pbO stgS (prevO ss k) ss[k] = false := (prev_eq stgS (x := ss[k]) (show k - 1 < ss.length by omega)).symm.trans hb12
        refine .skip (.thenN ?_)
        refine .seq (.text (.fa rfl rfl (.ld rfl rfl rfl rfl (.fa rfl rfl (.ld rfl rfl rfl rfl (.cmp rfl rfl rfl rfl (.mv rfl rfl (.or (d := 135) (g := 129) _ _ (take_drop 6) rfl rfl (fun hb14_6 => .guard rfl rfl rfl rfl (.fa rfl rfl (.guard rfl rfl rfl rfl (.ld rfl rfl rfl rfl (.guard rfl rfl rfl rfl (.ixA (i := 1) rfl rfl rfl (by decide) rfl (.guard rfl rfl rfl rfl (.ld rfl rfl rfl rfl (.guard rfl rfl rfl rfl (.cmp rfl rfl rfl rfl (.pick rfl rfl rfl rfl ((.done (.thenN (.midB rfl))))))))))))))) (.guardNo rfl rfl rfl rfl rfl rfl (.guardNo rfl rfl rfl rfl rfl rfl (.guardNo rfl rfl rfl rfl rfl rfl (.guardNo rfl rfl rfl rfl rfl rfl (.guardNo rfl rfl rfl rfl rfl rfl (.pick rfl rfl rfl rfl ((.done (.thenN (.midB rfl)))))))))) (.mv rfl rfl (?_))))))))))
        refine J.as (t := 136) (u := .bool (rfB3 stgS l1 (prevO ss k) ss[k])) rfl (by rw [rfB3, hp]; rfl) ?_
        refine .grpG (ι := Hp × Hp) (fun i => h1.le i.2 ∧ Rb i.1 i.2 wb (if rfB3 stgS l1 (prevO ss k) ss[k] = true then tellR R else (tellR (stgS.N R ss[k] (stgS.made ss[k]))))) (fun _ => (rfB3 stgS l1 (prevO ss k) ss[k] || !decide ((stgS.E' · ss[k]) (tellR R) = 0))) (fun i => i.2) (fun i => [one b15 (.cells ⟨svcV ss[k] (.slice tA ss[k].tags.length tc)⟩ 58 (0, 0)), i.1, one b9 (.cells ⟨[.int .u64 l0, .int .u64 l1, .int .u64 l2]⟩ 26 (0, 0))]) (d := 143) _ _ (take_drop 7) rfl ?_ ?_
        ·
          refine J.split (t := 136) rfl (fun hb14_13 => ?_) (fun hb14_13 => ?_)
          ·
            refine .guardNo rfl rfl rfl rfl rfl rfl (.guardNo rfl rfl rfl rfl rfl rfl (.guardNo rfl rfl rfl rfl rfl rfl (.guardNo rfl rfl rfl rfl rfl rfl (.guardNo rfl rfl rfl rfl rfl rfl (.guardNo rfl rfl rfl rfl rfl rfl (.pick rfl rfl rfl rfl ((.done (.thenN ?_)))))))))
            refine J.midG (m, h1) ⟨?_, ?_⟩ ?_ rfl rfl
            · exact Hp.le_refl _
            · dsimp only; rw [if_pos hb14_13]; exact hW
            · rw [show (rfB3 stgS l1 (prevO ss k) ss[k]) = true from hb14_13]; rfl
          ·
            refine .guard rfl rfl rfl rfl (.mv rfl rfl (.guard rfl rfl rfl rfl (.ldW rfl rfl rfl rfl (.guard rfl rfl rfl rfl (.fa rfl rfl (.guard rfl rfl rfl rfl (.ld rfl rfl rfl rfl (.guard rfl rfl rfl rfl (?_)))))))))
            refine .callM rfl rfl (rfsvc_walk (ix := ss[k].made) hW hwf.rf htv) rfl rfl fun ua ha ma hla hua => ?_
            obtain ⟨rfl, hWa⟩ := hua
            rw [show rfSvcW (tellR R) ss[k] ss[k].made = _ from e1] at hWa
            refine .guard rfl rfl rfl rfl (.cmp rfl rfl rfl rfl (.pick rfl rfl rfl rfl ((.done (.thenN ?_)))))
            refine J.midG (ma, ha) ⟨?_, ?_⟩ ?_ rfl rfl
            · exact hla
            · dsimp only; rw [if_neg (ifn hb14_13)]; exact hWa
            · rw [show (rfB3 stgS l1 (prevO ss k) ss[k]) = false from hb14_13]; rfl
        rintro ⟨m3, h3⟩ ⟨hl3, hW3⟩
        dsimp only at hl3 hW3 ⊢
        refine .mv rfl rfl (.grpG (ι := Hp × Hp) (fun i => h1.le i.2 ∧ ((rfB3 stgS l1 (prevO ss k) ss[k] || !decide ((stgS.E' · ss[k]) (tellR R) = 0)) = false → Rb i.1 i.2 wb (tellR (stgS.N (stgS.N R ss[k] (stgS.made ss[k])) ss[k] (stgS.ix ss[k]))))) (fun _ => ((rfB3 stgS l1 (prevO ss k) ss[k] || !decide ((stgS.E' · ss[k]) (tellR R) = 0)) || !decide ((stgS.E' · ss[k]) (tellR (stgS.N R ss[k] (stgS.made ss[k]))) = 0))) (fun i => i.2) (fun i => [one b15 (.cells ⟨svcV ss[k] (.slice tA ss[k].tags.length tc)⟩ 58 (0, 0)), i.1, one b9 (.cells ⟨[.int .u64 l0, .int .u64 l1, .int .u64 l2]⟩ 26 (0, 0))]) (d := 151) _ _ (take_drop 7) rfl ?_ ?_)
        ·
          refine J.split (t := 144) rfl (fun hb14_21 => ?_) (fun hb14_21 => ?_)
          ·
            refine .guardNo rfl rfl rfl rfl rfl rfl (.guardNo rfl rfl rfl rfl rfl rfl (.guardNo rfl rfl rfl rfl rfl rfl (.guardNo rfl rfl rfl rfl rfl rfl (.guardNo rfl rfl rfl rfl rfl rfl (.guardNo rfl rfl rfl rfl rfl rfl (.pick rfl rfl rfl rfl ((.done (.thenN ?_)))))))))
            refine J.midG (m3, h3) ⟨?_, fun e => ?_⟩ ?_ rfl rfl
            · exact hl3
            · rw [show (rfB3 stgS l1 (prevO ss k) ss[k] || !decide ((stgS.E' · ss[k]) (tellR R) = 0)) = true from hb14_21] at e; cases e
            · rw [show (rfB3 stgS l1 (prevO ss k) ss[k] || !decide ((stgS.E' · ss[k]) (tellR R) = 0)) = true from hb14_21]; rfl
          ·
            have hB3 : (rfB3 stgS l1 (prevO ss k) ss[k]) = false := (Bool.or_eq_false_iff.1 hb14_21).1
            rw [if_neg (ifn hB3)] at hW3
            refine .guard rfl rfl rfl rfl (.mv rfl rfl (.guard rfl rfl rfl rfl (.ldW rfl rfl rfl rfl (.guard rfl rfl rfl rfl (.fa rfl rfl (.guard rfl rfl rfl rfl (.ld rfl rfl rfl rfl (.guard rfl rfl rfl rfl (?_)))))))))
            refine .callM rfl rfl (rfsvc_walk (ix := ss[k].ix) hW3 wf1.rf (htv.mono RS.mono hl3)) rfl rfl fun ub hb_ mb hlb hub => ?_
            obtain ⟨rfl, hWb2⟩ := hub
            rw [← show stgS.W' (tellR R) ss[k] (stgS.made ss[k]) = _ from e1, show rfSvcW (stgS.W' (tellR R) ss[k] (stgS.made ss[k])) ss[k] ss[k].ix = _ from e2] at hWb2
            refine .guard rfl rfl rfl rfl (.cmp rfl rfl rfl rfl (.pick rfl rfl rfl rfl ((.done (.thenN ?_)))))
            refine J.midG (mb, hb_) ⟨?_, fun _ => ?_⟩ ?_ rfl rfl
            · exact Hp.le_trans hl3 hlb
            · exact hWb2
            · rw [show (rfB3 stgS l1 (prevO ss k) ss[k] || !decide ((stgS.E' · ss[k]) (tellR R) = 0)) = false from hb14_21]; rfl
        rintro ⟨m5, h5⟩ ⟨hl5', hW5'⟩
        dsimp only at hl5' hW5' ⊢
        refine .done (.thenN ?_)
        refine .cond rfl (fun hb14 => ?_) (fun hb14 => ?_)
        ·
          have hbad : rfBad stgS l1 (prevO ss k) ss[k] (tellR R) = true := by rw [rfBad_eq, e1]; exact hb14
          refine .seq (.text (.as_ rfl rfl (.done (.thenN ?_))))
          refine .ret (.blkR (.thenR (.thenR (.blkR (.thenR ?_)))))
          refine J.retTmp rfl (List.nil_sublist _) ?_
          rw [hinv, if_pos hbad]
          exact ⟨rfl, rfl⟩
        ·
          have hbad : rfBad stgS l1 (prevO ss k) ss[k] (tellR R) = false := by rw [rfBad_eq, e1]; exact hb14
          rw [if_neg (ifn hbad)] at hinv
          have hW5 := hW5' (Bool.or_eq_false_iff.1 hb14).1
          have hl5 := Hp.le_trans hl1 hl5'
          refine .skip (.blkN (.thenN ?_))
          refine .text (.mv rfl rfl (.inc rfl rfl (by have := hx.len; unfold maxL at this; omega) rfl (.as_ rfl rfl (.done (.thenN ?_)))))
          refine J.dropF 1 (J.again (k + 1, _, m5, h5) (by dsimp only; omega) ⟨hk, hl5, hW5, key2, wf2, hinv⟩ (.cons rfl (.cons rfl (.cons rfl (.cons rfl (.cons rfl (.nil _)))))) rfl rfl)
    ·
      have hk : k = ss.length := by simp [cmpI] at hb9; omega
      subst hk
      rw [List.drop_length] at hinv
      replace hinv : loadW most ns ss cs l0 l1 l2 = loadW3 l0 l1 l2 (rfGo stgC l2 (prevO cs 0) (cs.drop 0) (tellR R)) := hinv
      refine .exit (.thenE (.thenE (.blkHit (.thenN ?_))))
      refine .seq (.seq (.text (.as_ rfl rfl (.done (.thenN ?_)))))
      refine .block (?_)
      refine J.loop (ι := Nat × Rst × Hp × Hp) (fun i => i.1 ≤ cs.length ∧ h.le i.2.2.2 ∧ Rb i.2.2.1 i.2.2.2 wb (tellR i.2.1) ∧ RKey i.2.1 ∧ RWf i.2.1 ∧ loadW most ns ss cs l0 l1 l2 = loadW3 l0 l1 l2 (rfGo stgC l2 (prevO cs i.1) (cs.drop i.1) (tellR i.2.1))) (fun i => [(3, cv), (9, .pointer (some ⟨b9, 0, none⟩)), (11, .pointer (some ⟨wb, 0, none⟩)), (16, .int .i64 (i.1 : Int))]) (fun i => i.2.2.2) (fun i => [i.2.2.1, one b9 (.cells ⟨[.int .u64 l0, .int .u64 l1, .int .u64 l2]⟩ 26 (0, 0))]) (fun i => cs.length - i.1) (0, R, m, h1) ⟨by simp, hl1, hW, hkey, hwf, hinv⟩ (.cons rfl (.cons rfl (.cons rfl (.cons rfl (.nil _))))) rfl rfl ?_
      rintro ⟨k, R, m, h1⟩ ⟨hk0, hl1, hW, hkey, hwf, hinv⟩
      dsimp only at hk0 hl1 hW hkey hwf hinv ⊢
      have hx := hc.mono RChk.mono hl1
      refine .seq (.seq (.text (.mv rfl rfl (.mv rfl rfl (.len hx rfl rfl rfl (.cmp rfl rfl rfl rfl (.done (.thenN ?_))))))))
      refine .cond rfl (fun hb17 => ?_) (fun hb17 => ?_)
      ·
        have hk : k < cs.length := by simp [cmpI] at hb17; omega
        rw [rfGo_at hk] at hinv
        obtain ⟨e2, key2, wf2⟩ := tell2 (x := cs[k]) (i := stgC.made cs[k]) (j := stgC.ix cs[k]) stgC_ok hkey hwf
        have e1 := stgC_ok.w R cs[k] (stgC.made cs[k]) hkey hwf
        have wf1 := stgC_ok.wf R cs[k] (stgC.made cs[k]) hwf
        rw [e2] at hinv
        refine .skip (.thenN ?_)
        refine .seq (.block (.seq (.text (.mv rfl rfl (.mv rfl rfl (.ix (i := k) hx rfl rfl rfl hk rfl (.ldE hx hk rfl rfl rfl fun vs hvs => ?_)))))))
        obtain rfl := hvs
        refine .alloc (cs := [_, _, _, _, _, _, _]) rfl rfl rfl fun b17 => .stW rfl rfl rfl rfl rfl rfl (.done (.thenN ?_))
        refine .seq (.seq (.draw [(0, .pure), (1, .pure), (2, .pure), (3, .pure), (4, .pure), (5, .pure), (6, .pure), (7, .pure), (8, .read), (9, .pure), (10, .read), (11, .pure), (12, .pure), (13, .pure), (14, .pure), (15, .pure), (16, .pure), (17, .pure), (18, .read), (19, .pure), (20, .read), (21, .pure), (22, .pure), (23, .pure), (24, .pure), (25, .pure), (26, .pure), (27, .pure), (28, .read), (29, .pure), (30, .read), (31, .pure), (32, .pure), (33, .pure), (34, .pure)] rfl (by kernel_rfl) (.mv rfl rfl (.cmp rfl rfl rfl rfl (.mv rfl rfl (.and (d := 196) (g := 164) _ _ (take_drop 32) rfl rfl (fun hb20_3 => .guard rfl rfl rfl rfl (.mv rfl rfl (.guard rfl rfl rfl rfl (.mv rfl rfl (.guard rfl rfl rfl rfl (.dec rfl rfl (by simp [cmpI] at hb20_3; omega) (by have := hx.len; unfold maxL at this; omega) rfl (.guard rfl rfl rfl rfl (.ix (i := k - 1) hx rfl rfl rfl (by omega) rfl (.guard rfl rfl rfl rfl (.faE rfl (hx.ne (by omega)) rfl (.guard rfl rfl rfl rfl (.ldG (i := k - 1) (.int .i64 (cs[k - 1]'(by omega)).node) hx (by omega) rfl (fun vs e => by obtain rfl := e; rfl) rfl rfl (.guard rfl rfl rfl rfl (.fa rfl rfl (.guard rfl rfl rfl rfl (.ld rfl rfl rfl rfl (.guard rfl rfl rfl rfl (.cmp rfl rfl rfl rfl (.guard rfl rfl rfl rfl (.mv rfl rfl (.or (d := 195) (g := 174) _ _ (take_drop 21) rfl rfl (fun hb20_13 => .guard rfl rfl rfl rfl (.mv rfl rfl (.guard rfl rfl rfl rfl (.mv rfl rfl (.guard rfl rfl rfl rfl (.dec rfl rfl (by simp [cmpI] at hb20_3; omega) (by have := hx.len; unfold maxL at this; omega) rfl (.guard rfl rfl rfl rfl (.ix (i := k - 1) hx rfl rfl rfl (by omega) rfl (.guard rfl rfl rfl rfl (.faE rfl (hx.ne (by omega)) rfl (.guard rfl rfl rfl rfl (.ldG (i := k - 1) (.int .i64 (cs[k - 1]'(by omega)).node) hx (by omega) rfl (fun vs e => by obtain rfl := e; rfl) rfl rfl (.guard rfl rfl rfl rfl (.fa rfl rfl (.guard rfl rfl rfl rfl (.ld rfl rfl rfl rfl (.guard rfl rfl rfl rfl (.cmp rfl rfl rfl rfl (.guard rfl rfl rfl rfl (.mv rfl rfl (.and (d := 194) (g := 184) _ _ (take_drop 10) rfl rfl (fun hb20_23 => .guard rfl rfl rfl rfl (.mv rfl rfl (.guard rfl rfl rfl rfl (.mv rfl rfl (.guard rfl rfl rfl rfl (.dec rfl rfl (by simp [cmpI] at hb20_3; omega) (by have := hx.len; unfold maxL at this; omega) rfl (.guard rfl rfl rfl rfl (.ix (i := k - 1) hx rfl rfl rfl (by omega) rfl (.guard rfl rfl rfl rfl (.faE rfl (hx.ne (by omega)) rfl (.guard rfl rfl rfl rfl (.ldG (i := k - 1) (.string (cs[k - 1]'(by omega)).id) hx (by omega) rfl (fun vs e => by obtain rfl := e; rfl) rfl rfl (.guard rfl rfl rfl rfl (.fa rfl rfl (.guard rfl rfl rfl rfl (.ld rfl rfl rfl rfl (.guard rfl rfl rfl rfl (.cmpS rfl rfl rfl rfl (.guard rfl rfl rfl rfl (.pick rfl rfl rfl rfl ((.done (.thenN (.midB rfl)))))))))))))))))))))))) (.guardNo rfl rfl rfl rfl rfl rfl (.guardNo rfl rfl rfl rfl rfl rfl (.guardNo rfl rfl rfl rfl rfl rfl (.guardNo rfl rfl rfl rfl rfl rfl (.guardNo rfl rfl rfl rfl rfl rfl (.guardNo rfl rfl rfl rfl rfl rfl (.guardNo rfl rfl rfl rfl rfl rfl (.guardNo rfl rfl rfl rfl rfl rfl (.guardNo rfl rfl rfl rfl rfl rfl (.guard rfl rfl rfl rfl (.pick rfl rfl rfl rfl ((.done (.thenN (.midB rfl))))))))))))))) (.guard rfl rfl rfl rfl (.pick rfl rfl rfl rfl ((.done (.thenN (.midB rfl))))))))))))))))))))))))))) (.guardNo rfl rfl rfl rfl rfl rfl (.guardNo rfl rfl rfl rfl rfl rfl (.guardNo rfl rfl rfl rfl rfl rfl (.guardNo rfl rfl rfl rfl rfl rfl (.guardNo rfl rfl rfl rfl rfl rfl (.guardNo rfl rfl rfl rfl rfl rfl (.guardNo rfl rfl rfl rfl rfl rfl (.guardNo rfl rfl rfl rfl rfl rfl (.guardNo rfl rfl rfl rfl rfl rfl (.guardNo rfl rfl rfl rfl rfl rfl (.guardU rfl rfl rfl rfl rfl (.guardU rfl rfl rfl rfl rfl (.guardU rfl rfl rfl rfl rfl (.guardU rfl rfl rfl rfl rfl (.guardU rfl rfl rfl rfl rfl (.guardU rfl rfl rfl rfl rfl (.guardU rfl rfl rfl rfl rfl (.guardU rfl rfl rfl rfl rfl (.guardU rfl rfl rfl rfl rfl (.guardNo rfl rfl rfl rfl rfl rfl (.guard rfl rfl rfl rfl (.pick rfl rfl rfl rfl ((.done (.thenN (.midB rfl)))))))))))))))))))))))))) (.pick rfl rfl rfl rfl ((.done (.thenN (.midB rfl)))))))))))))))))))))))))) (.guardNo rfl rfl rfl rfl rfl rfl (.guardNo rfl rfl rfl rfl rfl rfl (.guardNo rfl rfl rfl rfl rfl rfl (.guardNo rfl rfl rfl rfl rfl rfl (.guardNo rfl rfl rfl rfl rfl rfl (.guardNo rfl rfl rfl rfl rfl rfl (.guardNo rfl rfl rfl rfl rfl rfl (.guardNo rfl rfl rfl rfl rfl rfl (.guardNo rfl rfl rfl rfl rfl rfl (.guardNo rfl rfl rfl rfl rfl rfl (.guardU rfl rfl rfl rfl rfl (.guardU rfl rfl rfl rfl rfl (.guardU rfl rfl rfl rfl rfl (.guardU rfl rfl rfl rfl rfl (.guardU rfl rfl rfl rfl rfl (.guardU rfl rfl rfl rfl rfl (.guardU rfl rfl rfl rfl rfl (.guardU rfl rfl rfl rfl rfl (.guardU rfl rfl rfl rfl rfl (.guardU rfl rfl rfl rfl rfl (.guardU rfl rfl rfl rfl rfl (.guardU rfl rfl rfl rfl rfl (.guardU rfl rfl rfl rfl rfl (.guardU rfl rfl rfl rfl rfl (.guardU rfl rfl rfl rfl rfl (.guardU rfl rfl rfl rfl rfl (.guardU rfl rfl rfl rfl rfl (.guardU rfl rfl rfl rfl rfl (.guardU rfl rfl rfl rfl rfl (.guardU rfl rfl rfl rfl rfl (.guardNo rfl rfl rfl rfl rfl rfl (.pick rfl rfl rfl rfl ((.done (.thenN (.midB rfl)))))))))))))))))))))))))))))))))))) (.done (.thenN ?_))))))))
        refine .cond rfl (fun hb20 => ?_) (fun hb20 => ?_)
        ·
          have hp : pbO stgC (prevO cs k) cs[k] = true := (prev_eq stgC (x := cs[k]) (show k - 1 < cs.length by omega)).symm.trans hb20
          have hbad : rfBad stgC l2 (prevO cs k) cs[k] (tellR R) = true := by rw [rfBad_eq, rfB3, hp]; rfl
          refine .seq (.text (.as_ rfl rfl (.done (.thenN ?_))))
          refine .ret (.thenR (.blkR (.thenR (.thenR (.blkR (.thenR ?_))))))
          refine J.retTmp rfl (List.nil_sublist _) ?_
          rw [hinv, if_pos hbad]
          exact ⟨rfl, rfl⟩
        ·
          have hp : pbO stgC (prevO cs k) cs[k] = false := (prev_eq stgC (x := cs[k]) (show k - 1 < cs.length by omega)).symm.trans hb20
          refine .skip (.thenN ?_)
          refine .seq (.text (.fa rfl rfl (.ld rfl rfl rfl rfl (.fa rfl rfl (.ld rfl rfl rfl rfl (.cmp rfl rfl rfl rfl (.mv rfl rfl (.or (d := 208) (g := 202) _ _ (take_drop 6) rfl rfl (fun hb22_6 => .guard rfl rfl rfl rfl (.fa rfl rfl (.guard rfl rfl rfl rfl (.ld rfl rfl rfl rfl (.guard rfl rfl rfl rfl (.ixA (i := 2) rfl rfl rfl (by decide) rfl (.guard rfl rfl rfl rfl (.ld rfl rfl rfl rfl (.guard rfl rfl rfl rfl (.cmp rfl rfl rfl rfl (.pick rfl rfl rfl rfl ((.done (.thenN (.midB rfl))))))))))))))) (.guardNo rfl rfl rfl rfl rfl rfl (.guardNo rfl rfl rfl rfl rfl rfl (.guardNo rfl rfl rfl rfl rfl rfl (.guardNo rfl rfl rfl rfl rfl rfl (.guardNo rfl rfl rfl rfl rfl rfl (.pick rfl rfl rfl rfl ((.done (.thenN (.midB rfl)))))))))) (.mv rfl rfl (?_))))))))))
          refine J.as (t := 209) (u := .bool (rfB3 stgC l2 (prevO cs k) cs[k])) rfl (by rw [rfB3, hp]; rfl) ?_
          refine .grpG (ι := Hp × Hp) (fun i => h1.le i.2 ∧ Rb i.1 i.2 wb (if rfB3 stgC l2 (prevO cs k) cs[k] = true then tellR R else (tellR (stgC.N R cs[k] (stgC.made cs[k]))))) (fun _ => (rfB3 stgC l2 (prevO cs k) cs[k] || !decide ((stgC.E' · cs[k]) (tellR R) = 0))) (fun i => i.2) (fun i => [one b17 (.cells ⟨chkV cs[k]⟩ 63 (0, 0)), i.1, one b9 (.cells ⟨[.int .u64 l0, .int .u64 l1, .int .u64 l2]⟩ 26 (0, 0))]) (d := 216) _ _ (take_drop 7) rfl ?_ ?_
          ·
            refine J.split (t := 209) rfl (fun hb22_13 => ?_) (fun hb22_13 => ?_)
            ·
              refine .guardNo rfl rfl rfl rfl rfl rfl (.guardNo rfl rfl rfl rfl rfl rfl (.guardNo rfl rfl rfl rfl rfl rfl (.guardNo rfl rfl rfl rfl rfl rfl (.guardNo rfl rfl rfl rfl rfl rfl (.guardNo rfl rfl rfl rfl rfl rfl (.pick rfl rfl rfl rfl ((.done (.thenN ?_)))))))))
              refine J.midG (m, h1) ⟨?_, ?_⟩ ?_ rfl rfl
              · exact Hp.le_refl _
              · dsimp only; rw [if_pos hb22_13]; exact hW
              · rw [show (rfB3 stgC l2 (prevO cs k) cs[k]) = true from hb22_13]; rfl
            ·
              refine .guard rfl rfl rfl rfl (.mv rfl rfl (.guard rfl rfl rfl rfl (.ldW rfl rfl rfl rfl (.guard rfl rfl rfl rfl (.fa rfl rfl (.guard rfl rfl rfl rfl (.ld rfl rfl rfl rfl (.guard rfl rfl rfl rfl (?_)))))))))
              refine .callM rfl rfl (rfchk_walk (ix := cs[k].made) hW hwf.rf) rfl rfl fun ua ha ma hla hua => ?_
              obtain ⟨rfl, hWa⟩ := hua
              rw [show rfChkW (tellR R) cs[k] cs[k].made = _ from e1] at hWa
              refine .guard rfl rfl rfl rfl (.cmp rfl rfl rfl rfl (.pick rfl rfl rfl rfl ((.done (.thenN ?_)))))
              refine J.midG (ma, ha) ⟨?_, ?_⟩ ?_ rfl rfl
              · exact hla
              · dsimp only; rw [if_neg (ifn hb22_13)]; exact hWa
              · rw [show (rfB3 stgC l2 (prevO cs k) cs[k]) = false from hb22_13]; rfl
          rintro ⟨m3, h3⟩ ⟨hl3, hW3⟩
          dsimp only at hl3 hW3 ⊢
          refine .mv rfl rfl (.grpG (ι := Hp × Hp) (fun i => h1.le i.2 ∧ ((rfB3 stgC l2 (prevO cs k) cs[k] || !decide ((stgC.E' · cs[k]) (tellR R) = 0)) = false → Rb i.1 i.2 wb (tellR (stgC.N (stgC.N R cs[k] (stgC.made cs[k])) cs[k] (stgC.ix cs[k]))))) (fun _ => ((rfB3 stgC l2 (prevO cs k) cs[k] || !decide ((stgC.E' · cs[k]) (tellR R) = 0)) || !decide ((stgC.E' · cs[k]) (tellR (stgC.N R cs[k] (stgC.made cs[k]))) = 0))) (fun i => i.2) (fun i => [one b17 (.cells ⟨chkV cs[k]⟩ 63 (0, 0)), i.1, one b9 (.cells ⟨[.int .u64 l0, .int .u64 l1, .int .u64 l2]⟩ 26 (0, 0))]) (d := 224) _ _ (take_drop 7) rfl ?_ ?_)
          ·
            refine J.split (t := 217) rfl (fun hb22_21 => ?_) (fun hb22_21 => ?_)
            ·
              refine .guardNo rfl rfl rfl rfl rfl rfl (.guardNo rfl rfl rfl rfl rfl rfl (.guardNo rfl rfl rfl rfl rfl rfl (.guardNo rfl rfl rfl rfl rfl rfl (.guardNo rfl rfl rfl rfl rfl rfl (.guardNo rfl rfl rfl rfl rfl rfl (.pick rfl rfl rfl rfl ((.done (.thenN ?_)))))))))
              refine J.midG (m3, h3) ⟨?_, fun e => ?_⟩ ?_ rfl rfl
              · exact hl3
              · rw [show (rfB3 stgC l2 (prevO cs k) cs[k] || !decide ((stgC.E' · cs[k]) (tellR R) = 0)) = true from hb22_21] at e; cases e
              · rw [show (rfB3 stgC l2 (prevO cs k) cs[k] || !decide ((stgC.E' · cs[k]) (tellR R) = 0)) = true from hb22_21]; rfl
            ·
              have hB3 : (rfB3 stgC l2 (prevO cs k) cs[k]) = false := (Bool.or_eq_false_iff.1 hb22_21).1
              rw [if_neg (ifn hB3)] at hW3
              refine .guard rfl rfl rfl rfl (.mv rfl rfl (.guard rfl rfl rfl rfl (.ldW rfl rfl rfl rfl (.guard rfl rfl rfl rfl (.fa rfl rfl (.guard rfl rfl rfl rfl (.ld rfl rfl rfl rfl (.guard rfl rfl rfl rfl (?_)))))))))
              refine .callM rfl rfl (rfchk_walk (ix := cs[k].ix) hW3 wf1.rf) rfl rfl fun ub hb_ mb hlb hub => ?_
              obtain ⟨rfl, hWb2⟩ := hub
              rw [← show stgC.W' (tellR R) cs[k] (stgC.made cs[k]) = _ from e1, show rfChkW (stgC.W' (tellR R) cs[k] (stgC.made cs[k])) cs[k] cs[k].ix = _ from e2] at hWb2
              refine .guard rfl rfl rfl rfl (.cmp rfl rfl rfl rfl (.pick rfl rfl rfl rfl ((.done (.thenN ?_)))))
              refine J.midG (mb, hb_) ⟨?_, fun _ => ?_⟩ ?_ rfl rfl
              · exact Hp.le_trans hl3 hlb
              · exact hWb2
              · rw [show (rfB3 stgC l2 (prevO cs k) cs[k] || !decide ((stgC.E' · cs[k]) (tellR R) = 0)) = false from hb22_21]; rfl
          rintro ⟨m5, h5⟩ ⟨hl5', hW5'⟩
          dsimp only at hl5' hW5' ⊢
          refine .done (.thenN ?_)
          refine .cond rfl (fun hb22 => ?_) (fun hb22 => ?_)
          ·
            have hbad : rfBad stgC l2 (prevO cs k) cs[k] (tellR R) = true := by rw [rfBad_eq, e1]; exact hb22
            refine .seq (.text (.as_ rfl rfl (.done (.thenN ?_))))
            refine .ret (.blkR (.thenR (.thenR (.blkR (.thenR ?_)))))
            refine J.retTmp rfl (List.nil_sublist _) ?_
            rw [hinv, if_pos hbad]
            exact ⟨rfl, rfl⟩
          ·
            have hbad : rfBad stgC l2 (prevO cs k) cs[k] (tellR R) = false := by rw [rfBad_eq, e1]; exact hb22
            rw [if_neg (ifn hbad)] at hinv
            have hW5 := hW5' (Bool.or_eq_false_iff.1 hb22).1
            have hl5 := Hp.le_trans hl1 hl5'
            refine .skip (.blkN (.thenN ?_))
            refine .text (.mv rfl rfl (.inc rfl rfl (by have := hx.len; unfold maxL at this; omega) rfl (.as_ rfl rfl (.done (.thenN ?_)))))
            refine J.dropF 1 (J.again (k + 1, _, m5, h5) (by dsimp only; omega) ⟨hk, hl5, hW5, key2, wf2, hinv⟩ (.cons rfl (.cons rfl (.cons rfl (.cons rfl (.nil _))))) rfl rfl)
      ·
        have hk : k = cs.length := by simp [cmpI] at hb17; omega
        subst hk
        rw [List.drop_length] at hinv
        replace hinv : loadW most ns ss cs l0 l1 l2 = some { tellR R with l0 := l0, l1 := l1, l2 := l2 } := hinv
        refine .exit (.thenE (.thenE (.blkHit (.thenN ?_))))
        refine .seq (?_)
        obtain ⟨nv', sv', cv', rfl, hn', hs', hc'⟩ := hW
        unfold rfV
        refine .text (.mv rfl rfl (.ldW rfl rfl rfl rfl (.nilOk rfl rfl (.fa rfl rfl (.stP rfl rfl rfl rfl rfl rfl (.done (.thenN ?_)))))))
        refine .seq (.text (.mv rfl rfl (.as_ rfl rfl (.done (.thenN ?_)))))
        refine .ret ?_
        refine J.retTmp rfl (List.Sublist.cons_cons _ (List.nil_sublist _)) ?_
        rw [hinv]
        exact ⟨wb, _, rfl, rfl, nv', sv', cv', rfl, hn', hs', hc'⟩
end Go.Sod
