/-
  Small functions of diff, walked. Conditions: none.
-/
import Derived.Test.YthlffjbmmoglfaaTypes
import Derived.Test.YthlffjbmmoglfaaApi
namespace Go.Sod
set_option linter.unusedVariables false
set_option linter.unusedSimpArgs false
set_option maxRecDepth 10000
set_option maxHeartbeats 4000000
theorem eqL_true {α : Type} {xs ys : List α} (hl : xs.length = ys.length) (h : ∀ i, i < xs.length → xs[i]? = ys[i]?) : xs = ys := by
  apply List.ext_getElem? 
  intro i
  by_cases hi : i < xs.length
  · exact h i hi
  · rw [List.getElem?_eq_none (by omega), List.getElem?_eq_none (by omega)]
theorem eqL_ne {α : Type} {xs ys : List α} {k : Nat} (h : xs[k]? ≠ ys[k]?) : xs ≠ ys := fun e => h (by rw [e])

theorem services1 {h : Hp} {s : Svc} {tv : Value} : FV Go.Proofs.Try.prog 27 [.agg ⟨[.int .i64 s.node, .string s.id, .string s.name, tv, .int .i64 s.port, .int .u64 s.made, .int .u64 s.ix]⟩] h (.string s.id) := by
  refine FS.enter Go.Proofs.Try.func27 rfl rfl fun w0 => ?_
  refine .seq (.text (.box (cs := [_, _, _, _, _, _, _]) rfl rfl rfl rfl fun b1 => .as_ rfl rfl (.done (.thenN ?_))))
  refine .seq (.text (.fa rfl rfl (.ld rfl rfl rfl rfl (.as_ rfl rfl (.done (.thenN ?_))))))
  refine .ret ?_
  exact J.retV rfl (by simp [resOne])

theorem checks1 {h : Hp} {s : Chk} : FV Go.Proofs.Try.prog 33 [.agg ⟨[.int .i64 s.node, .string s.id, .string s.service, .string s.note, .int .i64 s.status, .int .u64 s.made, .int .u64 s.ix]⟩] h (.string s.id) := by
  refine FS.enter Go.Proofs.Try.func33 rfl rfl fun w0 => ?_
  refine .seq (.text (.box (cs := [_, _, _, _, _, _, _]) rfl rfl rfl rfl fun b1 => .as_ rfl rfl (.done (.thenN ?_))))
  refine .seq (.text (.fa rfl rfl (.ld rfl rfl rfl rfl (.as_ rfl rfl (.done (.thenN ?_))))))
  refine .ret ?_
  exact J.retV rfl (by simp [resOne])

theorem same01 {h : Hp} {u v : Value} {xs ys : List ByteArray} (hx : SlR h 1 RS u xs) (hy : SlR h 1 RS v ys) : FV Go.Proofs.Try.prog 16 [u, v] h (.bool (decide (xs = ys))) := by
  refine FS.enter Go.Proofs.Try.func16 rfl rfl fun w0 => ?_
  refine .seq (.text (.as_ rfl rfl (.done (.thenN ?_))))
  refine .seq (.seq (.text (.mv rfl rfl (.len hx rfl rfl rfl (.mv rfl rfl (.len hy rfl rfl rfl (.cmp rfl rfl rfl rfl (.done (.thenN ?_)))))))))
  refine .cond rfl (fun hb1 => ?_) (fun hb1 => ?_)
  ·
    refine .seq (.text (.as_ rfl rfl (.done (.thenN ?_))))
    refine .ret (.thenR ?_)
    exact J.retV rfl (by simp only [resOne]; rw [decide_eq_false]; intro e; subst e; simp [cmpI] at hb1)
  ·
    refine .skip (.thenN ?_)
    refine .seq (.seq (.text (.as_ rfl rfl (.done (.thenN ?_)))))
    refine .block (?_)
    have hlen : xs.length = ys.length := by have := hb1; simp [cmpI] at this; omega
    refine J.loop (fun k : Nat => k ≤ xs.length ∧ ∀ i, i < k → xs[i]? = ys[i]?) (fun k => [(0, u), (1, v), (5, .int .i64 (k : Int))]) (fun _ => h) (fun _ => []) (fun k => xs.length - k) 0 ⟨by omega, fun i h => by omega⟩ (.cons rfl (.cons rfl (.cons rfl (.nil _)))) rfl rfl ?_
    rintro k ⟨hk0, hall⟩
    refine .seq (.seq (.text (.mv rfl rfl (.mv rfl rfl (.len hx rfl rfl rfl (.cmp rfl rfl rfl rfl (.done (.thenN ?_))))))))
    refine .cond rfl (fun hb4 => ?_) (fun hb4 => ?_)
    ·
      have hk : k < xs.length := by simpa [cmpI] using hb4
      have hk2 : k < ys.length := by omega
      refine .skip (.thenN ?_)
      refine .seq (.block (.seq (.draw [(0, .pure), (1, .pure), (2, .pure), (3, .read), (4, .pure), (5, .pure), (6, .pure), (7, .read), (8, .pure)] rfl (by kernel_rfl) (.mv rfl rfl (.mv rfl rfl (.ix hx rfl rfl rfl hk rfl (.ld1 hx hk rfl rfl rfl fun u hu => ?_)))))))
      obtain rfl : u = .string xs[k] := by simpa [RS] using hu
      refine .mv rfl rfl (.mv rfl rfl (.ix hy rfl rfl rfl hk2 rfl (.ld1 hy hk2 rfl rfl rfl fun u hu => ?_)))
      obtain rfl : u = .string ys[k] := by simpa [RS] using hu
      refine .cmpS rfl rfl rfl rfl (.done (.thenN ?_))
      refine .cond rfl (fun hb6 => ?_) (fun hb6 => ?_)
      ·
        refine .seq (.text (.as_ rfl rfl (.done (.thenN ?_))))
        refine .ret (.blkR (.thenR (.thenR (.blkR (.thenR ?_)))))
        exact J.retV rfl (by simp only [resOne]; rw [decide_eq_false]; exact eqL_ne (k := k) (by rw [List.getElem?_eq_getElem hk, List.getElem?_eq_getElem hk2]; simpa [cmpS] using hb6))
      ·
        refine .skip (.blkN (.thenN ?_))
        refine .text (.mv rfl rfl (.inc rfl rfl (by have := hx.len; unfold maxL at this; omega) rfl (.as_ rfl rfl (.done (.thenN ?_)))))
        refine J.again (k + 1) (by omega) ⟨hk, fun i hi => ?_⟩ (.cons rfl (.cons rfl (.cons rfl (.nil _)))) rfl rfl
        by_cases e : i = k
        · subst e; rw [List.getElem?_eq_getElem hk, List.getElem?_eq_getElem hk2]; simpa [cmpS] using hb6
        · exact hall i (by omega)
    ·
      refine .exit (.thenE (.thenE (.blkHit (.thenN ?_))))
      refine .seq (.text (.as_ rfl rfl (.done (.thenN ?_))))
      refine .ret ?_
      have hk : ¬ k < xs.length := by simpa [cmpI] using hb4
      exact J.retV rfl (by simp only [resOne]; rw [decide_eq_true]; exact eqL_true hlen fun i hi => hall i (by omega))

theorem equalS {h : Hp} {u v : Value} {xs ys : List ByteArray} (hx : SlR h 1 RS u xs) (hy : SlR h 1 RS v ys) : FV Go.Proofs.Try.prog 29 [u, v] h (.bool (decide (xs = ys))) := by
  refine FS.enter Go.Proofs.Try.func29 rfl rfl fun w0 => ?_
  refine .seq (.text (.as_ rfl rfl (.done (.thenN ?_))))
  refine .seq (.seq (.text (.mv rfl rfl (.len hx rfl rfl rfl (.mv rfl rfl (.len hy rfl rfl rfl (.cmp rfl rfl rfl rfl (.done (.thenN ?_)))))))))
  refine .cond rfl (fun hb1 => ?_) (fun hb1 => ?_)
  ·
    refine .seq (.text (.as_ rfl rfl (.done (.thenN ?_))))
    refine .ret (.thenR ?_)
    exact J.retV rfl (by simp only [resOne]; rw [decide_eq_false]; intro e; subst e; simp [cmpI] at hb1)
  ·
    refine .skip (.thenN ?_)
    refine .seq (.seq (.text (.mv rfl rfl (.len hx rfl rfl rfl (.mv rfl rfl (.done (.thenN ?_)))))))
    refine .block (?_)
    have hlen : xs.length = ys.length := by have := hb1; simp [cmpI] at this; omega
    refine J.loop (fun k : Nat => k ≤ xs.length ∧ ∀ i, i < k → xs[i]? = ys[i]?) (fun k => [(0, u), (1, v), (12, .int .i64 (xs.length : Int)), (13, .int .i64 (k : Int))]) (fun _ => h) (fun _ => []) (fun k => xs.length - k) 0 ⟨by omega, fun i h => by omega⟩ (.cons rfl (.cons rfl (.cons rfl (.cons rfl (.nil _))))) rfl rfl ?_
    rintro k ⟨hk0, hall⟩
    refine .seq (.text (.cmp rfl rfl rfl rfl (.done (.thenN ?_))))
    refine .seq (.cond rfl (fun hb4 => ?_) (fun hb4 => ?_))
    ·
      have hk : k < xs.length := by simpa [cmpI] using hb4
      have hk2 : k < ys.length := by omega
      refine .skip (.thenN ?_)
      refine .seq (.block (.seq (.text (.mv rfl rfl (.as_ rfl rfl (.done (.thenN ?_)))))))
      refine .seq (.draw [(0, .pure), (1, .pure), (2, .pure), (3, .read), (4, .pure), (5, .pure), (6, .pure), (7, .read), (8, .pure)] rfl (by kernel_rfl) (.mv rfl rfl (.mv rfl rfl (.ix hx rfl rfl rfl hk rfl (.ld1 hx hk rfl rfl rfl fun u hu => ?_)))))
      obtain rfl : u = .string xs[k] := by simpa [RS] using hu
      refine .mv rfl rfl (.mv rfl rfl (.ix hy rfl rfl rfl hk2 rfl (.ld1 hy hk2 rfl rfl rfl fun u hu => ?_)))
      obtain rfl : u = .string ys[k] := by simpa [RS] using hu
      refine .cmpS rfl rfl rfl rfl (.done (.thenN ?_))
      refine .cond rfl (fun hb6 => ?_) (fun hb6 => ?_)
      ·
        refine .seq (.text (.as_ rfl rfl (.done (.thenN ?_))))
        refine .ret (.blkR (.thenR (.thenR (.blkR (.thenR ?_)))))
        exact J.retV rfl (by simp only [resOne]; rw [decide_eq_false]; exact eqL_ne (k := k) (by rw [List.getElem?_eq_getElem hk, List.getElem?_eq_getElem hk2]; simpa [cmpS] using hb6))
      ·
        refine .skip (.blkN (.thenN ?_))
        refine .text (.inc rfl rfl (by have := hx.len; unfold maxL at this; omega) rfl (.mv rfl rfl (.done (.thenN ?_))))
        refine J.again (k + 1) (by omega) ⟨hk, fun i hi => ?_⟩ (.cons rfl (.cons rfl (.cons rfl (.cons rfl (.nil _))))) rfl rfl
        by_cases e : i = k
        · subst e; rw [List.getElem?_eq_getElem hk, List.getElem?_eq_getElem hk2]; simpa [cmpS] using hb6
        · exact hall i (by omega)
    ·
      refine .exit (.thenE (.thenE (.blkHit (.thenN ?_))))
      refine .seq (.text (.as_ rfl rfl (.done (.thenN ?_))))
      refine .ret ?_
      have hk : ¬ k < xs.length := by simpa [cmpI] using hb4
      exact J.retV rfl (by simp only [resOne]; rw [decide_eq_true]; exact eqL_true hlen fun i hi => hall i (by omega))

def sameSvc (a b : Svc) : Bool := (decide (a.name = b.name) && decide (a.tags = b.tags)) && decide (a.port = b.port)
def sameChk (a b : Chk) : Bool := (decide (a.service = b.service) && decide (a.note = b.note)) && decide (a.status = b.status)
/-- a command's cells -/
def cmdV (c : Cmd) (tv sv : Value) : List Value := [.int .i64 c.kind, .int .i64 c.node, .int .i64 c.port, .int .i64 c.status, .string c.id, .string c.name, .string c.service, .string c.note, .string c.key, .string c.value, .string c.src, .string c.dst, tv, .bool c.allow, .int .u64 c.old, .int .u64 c.session, sv]
def nilV : Value := .slice none 0 0

theorem services2 {h : Hp} {s t : Svc} {u v : Value} (hx : SlR h 1 RS u s.tags) (hy : SlR h 1 RS v t.tags) : FV Go.Proofs.Try.prog 28 [.agg ⟨[.int .i64 s.node, .string s.id, .string s.name, u, .int .i64 s.port, .int .u64 s.made, .int .u64 s.ix]⟩, .agg ⟨[.int .i64 t.node, .string t.id, .string t.name, v, .int .i64 t.port, .int .u64 t.made, .int .u64 t.ix]⟩] h (.bool (sameSvc s t)) := by
  refine FS.enter Go.Proofs.Try.func28 rfl rfl fun w0 => ?_
  refine .seq (.text (.box (cs := [_, _, _, _, _, _, _]) rfl rfl rfl rfl fun b2 => .box (cs := [_, _, _, _, _, _, _]) rfl rfl rfl rfl fun b3 => .as_ rfl rfl (.done (.thenN ?_))))
  refine .seq (.text (.fa rfl rfl (.ld rfl rfl rfl rfl (.fa rfl rfl (.ld rfl rfl rfl rfl (.cmpS rfl rfl rfl rfl (.mv rfl rfl (.and (d := 16) (g := 10) _ _ (take_drop 6) rfl rfl (fun hb1_6 => .guard rfl rfl rfl rfl (.fa rfl rfl (.guard rfl rfl rfl rfl (.ld rfl rfl rfl rfl (.guard rfl rfl rfl rfl (.fa rfl rfl (.guard rfl rfl rfl rfl (.ld rfl rfl rfl rfl (.guard rfl rfl rfl rfl (.callV rfl rfl (equalS hx hy) rfl rfl (.pick rfl rfl rfl rfl ((.done (.thenN (.midB rfl))))))))))))))) (.guardNo rfl rfl rfl rfl rfl rfl (.guardNo rfl rfl rfl rfl rfl rfl (.guardNo rfl rfl rfl rfl rfl rfl (.guardNo rfl rfl rfl rfl rfl rfl (.guardNo rfl rfl rfl rfl rfl rfl (.pick rfl rfl rfl rfl ((.done (.thenN (.midB rfl)))))))))) (.mv rfl rfl (.and (d := 23) (g := 17) _ _ (take_drop 6) rfl rfl (fun hb1_13 => .guard rfl rfl rfl rfl (.fa rfl rfl (.guard rfl rfl rfl rfl (.ld rfl rfl rfl rfl (.guard rfl rfl rfl rfl (.fa rfl rfl (.guard rfl rfl rfl rfl (.ld rfl rfl rfl rfl (.guard rfl rfl rfl rfl (.cmp rfl rfl rfl rfl (.pick rfl rfl rfl rfl ((.done (.thenN (.midB rfl))))))))))))))) (.guardNo rfl rfl rfl rfl rfl rfl (.guardNo rfl rfl rfl rfl rfl rfl (.guardNo rfl rfl rfl rfl rfl rfl (.guardNo rfl rfl rfl rfl rfl rfl (.guardNo rfl rfl rfl rfl rfl rfl (.pick rfl rfl rfl rfl ((.done (.thenN (.midB rfl)))))))))) (.as_ rfl rfl (.done (.thenN ?_)))))))))))))
  refine .ret ?_
  exact J.retV rfl (by simp [resOne, sameSvc])

theorem checks2 {h : Hp} {s t : Chk} : FV Go.Proofs.Try.prog 34 [.agg ⟨[.int .i64 s.node, .string s.id, .string s.service, .string s.note, .int .i64 s.status, .int .u64 s.made, .int .u64 s.ix]⟩, .agg ⟨[.int .i64 t.node, .string t.id, .string t.service, .string t.note, .int .i64 t.status, .int .u64 t.made, .int .u64 t.ix]⟩] h (.bool (sameChk s t)) := by
  refine FS.enter Go.Proofs.Try.func34 rfl rfl fun w0 => ?_
  refine .seq (.text (.box (cs := [_, _, _, _, _, _, _]) rfl rfl rfl rfl fun b2 => .box (cs := [_, _, _, _, _, _, _]) rfl rfl rfl rfl fun b3 => .as_ rfl rfl (.done (.thenN ?_))))
  refine .seq (.text (.fa rfl rfl (.ld rfl rfl rfl rfl (.fa rfl rfl (.ld rfl rfl rfl rfl (.cmpS rfl rfl rfl rfl (.mv rfl rfl (.and (d := 16) (g := 10) _ _ (take_drop 6) rfl rfl (fun hb1_6 => .guard rfl rfl rfl rfl (.fa rfl rfl (.guard rfl rfl rfl rfl (.ld rfl rfl rfl rfl (.guard rfl rfl rfl rfl (.fa rfl rfl (.guard rfl rfl rfl rfl (.ld rfl rfl rfl rfl (.guard rfl rfl rfl rfl (.cmpS rfl rfl rfl rfl (.pick rfl rfl rfl rfl ((.done (.thenN (.midB rfl))))))))))))))) (.guardNo rfl rfl rfl rfl rfl rfl (.guardNo rfl rfl rfl rfl rfl rfl (.guardNo rfl rfl rfl rfl rfl rfl (.guardNo rfl rfl rfl rfl rfl rfl (.guardNo rfl rfl rfl rfl rfl rfl (.pick rfl rfl rfl rfl ((.done (.thenN (.midB rfl)))))))))) (.mv rfl rfl (.and (d := 23) (g := 17) _ _ (take_drop 6) rfl rfl (fun hb1_13 => .guard rfl rfl rfl rfl (.fa rfl rfl (.guard rfl rfl rfl rfl (.ld rfl rfl rfl rfl (.guard rfl rfl rfl rfl (.fa rfl rfl (.guard rfl rfl rfl rfl (.ld rfl rfl rfl rfl (.guard rfl rfl rfl rfl (.cmp rfl rfl rfl rfl (.pick rfl rfl rfl rfl ((.done (.thenN (.midB rfl))))))))))))))) (.guardNo rfl rfl rfl rfl rfl rfl (.guardNo rfl rfl rfl rfl rfl rfl (.guardNo rfl rfl rfl rfl rfl rfl (.guardNo rfl rfl rfl rfl rfl rfl (.guardNo rfl rfl rfl rfl rfl rfl (.pick rfl rfl rfl rfl ((.done (.thenN (.midB rfl)))))))))) (.as_ rfl rfl (.done (.thenN ?_)))))))))))))
  refine .ret ?_
  exact J.retV rfl (by simp [resOne, sameChk])

theorem services3 {h : Hp} {B : Nat} {node : Int} {T : TypeId} {fr : Nat × Nat} (hB : h B = some (.cells ⟨[.int .i64 node]⟩ T fr)) {id : ByteArray} : FV Go.Proofs.Try.prog 30 [.string id, .pointer (some ⟨B, 0, none⟩)] h (.agg ⟨cmdV { cmd0 4 node with id := id } nilV nilV⟩) := by
  refine FS.enter Go.Proofs.Try.func30 rfl rfl fun w0 => ?_
  haveI : ∀ L, At h L B (.cells ⟨[.int .i64 node]⟩ T fr) := fun L => At.ofH hB
  refine .seq (.text (.alloc (cs := [_, _, _, _, _, _, _, _, _, _, _, _, _, _, _, _, _]) rfl rfl rfl fun b3 => .done (.thenN ?_)))
  refine .seq (.text (.ld rfl rfl rfl rfl (.mv rfl rfl (.bld [_, _, _, _, _, _, _, _, _, _, _, _, _, _, _, _, _] rfl (by rfl) rfl ?_))))
  refine .stW rfl rfl rfl rfl rfl rfl (.done (.thenN ?_))
  refine .ret ?_
  exact J.retBoxA rfl rfl rfl (List.nil_sublist _) ⟨rfl, rfl, rfl⟩

theorem checks3 {h : Hp} {B : Nat} {node : Int} {T : TypeId} {fr : Nat × Nat} (hB : h B = some (.cells ⟨[.int .i64 node]⟩ T fr)) {id : ByteArray} : FV Go.Proofs.Try.prog 35 [.string id, .pointer (some ⟨B, 0, none⟩)] h (.agg ⟨cmdV { cmd0 6 node with id := id } nilV nilV⟩) := by
  refine FS.enter Go.Proofs.Try.func35 rfl rfl fun w0 => ?_
  haveI : ∀ L, At h L B (.cells ⟨[.int .i64 node]⟩ T fr) := fun L => At.ofH hB
  refine .seq (.text (.alloc (cs := [_, _, _, _, _, _, _, _, _, _, _, _, _, _, _, _, _]) rfl rfl rfl fun b3 => .done (.thenN ?_)))
  refine .seq (.text (.ld rfl rfl rfl rfl (.mv rfl rfl (.bld [_, _, _, _, _, _, _, _, _, _, _, _, _, _, _, _, _] rfl (by rfl) rfl ?_))))
  refine .stW rfl rfl rfl rfl rfl rfl (.done (.thenN ?_))
  refine .ret ?_
  exact J.retBoxA rfl rfl rfl (List.nil_sublist _) ⟨rfl, rfl, rfl⟩
end Go.Sod
