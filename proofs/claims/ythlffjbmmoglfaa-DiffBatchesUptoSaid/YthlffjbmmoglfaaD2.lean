/-
  known, kinds of diff, walked. Conditions: none.
-/
import Derived.Test.YthlffjbmmoglfaaD1
namespace Go.Sod
set_option linter.unusedVariables false
set_option linter.unusedSimpArgs false
set_option maxRecDepth 10000
set_option maxHeartbeats 4000000

def RV {α : Type} (R : Rp α) (x : α) : Value → Hp → Prop := fun v h => ∃ vs, v = .agg ⟨vs⟩ ∧ R h x vs
theorem RCmd.flat {h : Hp} {c : Cmd} {tv : Value} (ht : SlR h 1 RS tv c.tags) (hs : c.subs = []) : RCmd h c (cmdV c tv nilV) := ⟨1, tv, nilV, rfl, ht, by rw [hs]; exact SlR.nil ..⟩
def svcV (x : Svc) (tv : Value) : List Value := [.int .i64 x.node, .string x.id, .string x.name, tv, .int .i64 x.port, .int .u64 x.made, .int .u64 x.ix]
def chkV (x : Chk) : List Value := [.int .i64 x.node, .string x.id, .string x.service, .string x.note, .int .i64 x.status, .int .u64 x.made, .int .u64 x.ix]
def ptr0 (B : Nat) : Value := .pointer (some ⟨B, 0, none⟩)
def fnV (i : Nat) (cap : List Value) : Value := .func (.func i) ⟨[]⟩ ⟨cap⟩
def kSvc (B : Nat) : List Value := [fnV 27 [], fnV 28 [], fnV 30 [ptr0 B], fnV 31 [ptr0 B]]
def kChk (B : Nat) : List Value := [fnV 33 [], fnV 34 [], fnV 35 [ptr0 B], fnV 36 [ptr0 B]]
def laySvc (node : Int) (s : Svc) : Cmd := { cmd0 3 node with id := s.id, name := s.name, tags := s.tags, port := s.port }
def layChk (node : Int) (s : Chk) : Cmd := { cmd0 5 node with id := s.id, service := s.service, note := s.note, status := s.status }
def dropSvc (node : Int) (s : Svc) : Cmd := { cmd0 4 node with id := s.id }
def dropChk (node : Int) (s : Chk) : Cmd := { cmd0 6 node with id := s.id }
def svc0 : Svc := ⟨0, ⟨#[]⟩, ⟨#[]⟩, [], 0, 0, 0⟩
def chk0 : Chk := ⟨0, ⟨#[]⟩, ⟨#[]⟩, ⟨#[]⟩, 0, 0, 0⟩
/-- the last one with an id -/
def lastS (xs : List Svc) (id : ByteArray) : Option Svc := xs.reverse.find? fun x => decide (x.id = id)
def lastC (xs : List Chk) (id : ByteArray) : Option Chk := xs.reverse.find? fun x => decide (x.id = id)
theorem lastS_push (xs : List Svc) (x : Svc) (id : ByteArray) : lastS (xs ++ [x]) id = if x.id = id then some x else lastS xs id := by
  simp only [lastS, List.reverse_append, List.reverse_cons, List.reverse_nil, List.nil_append, List.singleton_append, List.find?_cons]
  by_cases e : x.id = id <;> simp [e]
theorem lastC_push (xs : List Chk) (x : Chk) (id : ByteArray) : lastC (xs ++ [x]) id = if x.id = id then some x else lastC xs id := by
  simp only [lastC, List.reverse_append, List.reverse_cons, List.reverse_nil, List.nil_append, List.singleton_append, List.find?_cons]
  by_cases e : x.id = id <;> simp [e]
/-- what a map knows -/
def KnS (h : Hp) (xs : List Svc) (f : ByteArray → Option Value) : Prop := ∀ id, match lastS xs id with
  | none => f id = none
  | some x => ∃ tv, f id = some (.agg ⟨svcV x tv⟩) ∧ SlR h 1 RS tv x.tags
def KnC (h : Hp) (xs : List Chk) (f : ByteArray → Option Value) : Prop := ∀ id, f id = (lastC xs id).map fun x => .agg ⟨chkV x⟩
theorem KnS.mono {h h' : Hp} {xs : List Svc} {f : ByteArray → Option Value} (k : KnS h xs f) (l : h.le h') : KnS h' xs f := by
  intro id
  have := k id
  cases e : lastS xs id with
  | none => rw [e] at this; exact this
  | some x =>
    rw [e] at this
    obtain ⟨tv, h1, h2⟩ := this
    exact ⟨tv, h1, h2.mono RS.mono l⟩
theorem KnS.get {h : Hp} {xs : List Svc} {f : ByteArray → Option Value} (k : KnS h xs f) (id : ByteArray) : ∃ A c, (f id).getD (.agg ⟨svcV svc0 (.slice none 0 0)⟩) = .agg ⟨svcV ((lastS xs id).getD svc0) (.slice A ((lastS xs id).getD svc0).tags.length c)⟩ ∧ SlR h 1 RS (.slice A ((lastS xs id).getD svc0).tags.length c) ((lastS xs id).getD svc0).tags ∧ (f id).isSome = (lastS xs id).isSome := by
  have := k id
  cases e : lastS xs id with
  | none => rw [e] at this; rw [this]; exact ⟨none, 0, rfl, SlR.nil .., rfl⟩
  | some x =>
    rw [e] at this
    obtain ⟨tv, h1, h2⟩ := this
    obtain ⟨A, c, rfl⟩ := h2.form
    rw [h1]; exact ⟨A, c, rfl, h2, rfl⟩
theorem KnC.get {h : Hp} {xs : List Chk} {f : ByteArray → Option Value} (k : KnC h xs f) (id : ByteArray) : (f id).getD (.agg ⟨chkV chk0⟩) = .agg ⟨chkV ((lastC xs id).getD chk0)⟩ ∧ (f id).isSome = (lastC xs id).isSome := by
  rw [k id]; cases lastC xs id <;> exact ⟨rfl, rfl⟩
theorem KnS.step {h : Hp} {xs : List Svc} {x : Svc} {tv : Value} {f : ByteArray → Option Value} (k : KnS h xs f) (ht : SlR h 1 RS tv x.tags) : KnS h (xs ++ [x]) (fun s => if x.id = s then some (.agg ⟨svcV x tv⟩) else f s) := by
  intro id
  rw [lastS_push]
  by_cases e : x.id = id
  · simp only [e, if_true]; exact ⟨tv, rfl, ht⟩
  · simp only [e, if_false]; exact k id
theorem KnC.step {h : Hp} {xs : List Chk} {x : Chk} {f : ByteArray → Option Value} (k : KnC h xs f) : KnC h (xs ++ [x]) (fun s => if x.id = s then some (.agg ⟨chkV x⟩) else f s) := by
  intro id
  rw [lastC_push]
  by_cases e : x.id = id
  · simp [e]
  · simp only [e, if_false]; exact k id
theorem take_succ' {α : Type} {xs : List α} {k : Nat} (hk : k < xs.length) : xs.take (k + 1) = xs.take k ++ [xs[k]] := by
  rw [List.take_add_one, List.getElem?_eq_getElem hk]; rfl
def dropsS (own cat : List Svc) (node : Int) : List Cmd := (cat.filter fun y => !(lastS own y.id).isSome).map (dropSvc node)
def dropsC (own cat : List Chk) (node : Int) : List Cmd := (cat.filter fun y => !(lastC own y.id).isSome).map (dropChk node)
def laysS (own cat : List Svc) (node : Int) : List Cmd := (own.filter fun x => !(lastS cat x.id).isSome || !sameSvc x ((lastS cat x.id).getD svc0)).map (laySvc node)
def laysC (own cat : List Chk) (node : Int) : List Cmd := (own.filter fun x => !(lastC cat x.id).isSome || !sameChk x ((lastC cat x.id).getD chk0)).map (layChk node)
theorem dropsS_push (own cat : List Svc) (y : Svc) (node : Int) : dropsS own (cat ++ [y]) node = dropsS own cat node ++ (if (lastS own y.id).isSome then [] else [dropSvc node y]) := by
  simp only [dropsS, List.filter_append, List.map_append, List.filter_cons, List.filter_nil]; cases (lastS own y.id).isSome <;> rfl
theorem dropsC_push (own cat : List Chk) (y : Chk) (node : Int) : dropsC own (cat ++ [y]) node = dropsC own cat node ++ (if (lastC own y.id).isSome then [] else [dropChk node y]) := by
  simp only [dropsC, List.filter_append, List.map_append, List.filter_cons, List.filter_nil]; cases (lastC own y.id).isSome <;> rfl
theorem laysS_push (own cat : List Svc) (y : Svc) (node : Int) : laysS (own ++ [y]) cat node = laysS own cat node ++ (if !(lastS cat y.id).isSome || !sameSvc y ((lastS cat y.id).getD svc0) then [laySvc node y] else []) := by
  simp only [laysS, List.filter_append, List.map_append, List.filter_cons, List.filter_nil]; cases (!(lastS cat y.id).isSome || !sameSvc y ((lastS cat y.id).getD svc0)) <;> rfl
theorem laysC_push (own cat : List Chk) (y : Chk) (node : Int) : laysC (own ++ [y]) cat node = laysC own cat node ++ (if !(lastC cat y.id).isSome || !sameChk y ((lastC cat y.id).getD chk0) then [layChk node y] else []) := by
  simp only [laysC, List.filter_append, List.map_append, List.filter_cons, List.filter_nil]; cases (!(lastC cat y.id).isSome || !sameChk y ((lastC cat y.id).getD chk0)) <;> rfl
theorem dropsS_len (own cat : List Svc) (node : Int) : (dropsS own cat node).length ≤ cat.length := by simp only [dropsS, List.length_map]; exact List.length_filter_le ..
theorem dropsC_len (own cat : List Chk) (node : Int) : (dropsC own cat node).length ≤ cat.length := by simp only [dropsC, List.length_map]; exact List.length_filter_le ..
theorem laysS_len (own cat : List Svc) (node : Int) : (laysS own cat node).length ≤ own.length := by simp only [laysS, List.length_map]; exact List.length_filter_le ..
theorem laysC_len (own cat : List Chk) (node : Int) : (laysC own cat node).length ≤ own.length := by simp only [laysC, List.length_map]; exact List.length_filter_le ..

theorem cloneS {h : Hp} {v : Value} {xs : List ByteArray} (hx : SlR h 1 RS v xs) : FH Go.Proofs.Try.prog 32 [v] h (fun u h' => SlR h' 1 RS u xs) := by
  refine FS.enter Go.Proofs.Try.func32 rfl rfl fun w0 => ?_
  obtain ⟨A, c, rfl⟩ := hx.form
  refine .seq (.text (.as_ rfl rfl (.done (.thenN ?_))))
  refine .seq (.seq (.text (.mv rfl rfl (.eqNil rfl rfl (.inl ⟨rfl, rfl⟩) rfl (.done (.thenN ?_))))))
  refine .cond rfl (fun hb1 => ?_) (fun hb1 => ?_)
  ·
    refine .seq (.text (.as_ rfl rfl (.done (.thenN ?_))))
    refine .ret (.thenR ?_)
    obtain rfl : A = none := by cases A <;> simp at hb1 ⊢
    obtain rfl := hx.none
    exact J.retH rfl (SlR.nil _ _ _)
  ·
    refine .skip (.thenN ?_)
    refine .seq (.text (.bs [] rfl rfl rfl rfl (by decide) rfl rfl rfl fun b5 => .mv rfl rfl (.appL (xs := []) rfl ⟨[], SlO.mk rfl (by simp [maxL]), fun i hi => by simp at hi⟩ rfl hx rfl (by simpa using hx.len) rfl rfl fun v m hm => .as_ rfl rfl (.done (.thenN ?_)))))
    refine .ret ?_
    exact J.frz hm RS.mono fun h' hl hs => J.retH rfl hs

theorem services4 {h : Hp} {B : Nat} {node : Int} {T : TypeId} {fr : Nat × Nat} (hB : h B = some (.cells ⟨[.int .i64 node]⟩ T fr)) {s : Svc} {tv : Value} (ht : SlR h 1 RS tv s.tags) : FH Go.Proofs.Try.prog 31 [.agg ⟨svcV s tv⟩, ptr0 B] h (RV RCmd (laySvc node s)) := by
  refine FS.enter Go.Proofs.Try.func31 rfl rfl fun w0 => ?_
  haveI : ∀ L, At h L B (.cells ⟨[.int .i64 node]⟩ T fr) := fun L => At.ofH hB
  refine .seq (.text (.box (cs := [_, _, _, _, _, _, _]) rfl rfl rfl rfl fun b2 => .alloc (cs := [_, _, _, _, _, _, _, _, _, _, _, _, _, _, _, _, _]) rfl rfl rfl fun b3 => .done (.thenN ?_)))
  refine .seq (.draw [(0, .read), (1, .pure), (2, .read), (3, .pure), (4, .read), (5, .pure), (6, .read), (8, .pure), (9, .read), (7, .grow), (10, .pure), (11, .mut)] rfl (by kernel_rfl) (.ld rfl rfl rfl rfl (.fa rfl rfl (.ld rfl rfl rfl rfl (.fa rfl rfl (.ld rfl rfl rfl rfl (.fa rfl rfl (.ld rfl rfl rfl rfl (.fa rfl rfl (.ld rfl rfl rfl rfl (?_)))))))))))
  refine .callH rfl rfl (cloneS ht) rfl rfl fun u11 h11 hl11 hu11 => ?_
  obtain ⟨A, c, rfl⟩ := hu11.form
  refine .bld [_, _, _, _, _, _, _, _, _, _, _, _, _, _, _, _, _] rfl (by rfl) rfl ?_
  refine .stW rfl rfl rfl rfl rfl rfl (.done (.thenN ?_))
  refine .ret ?_
  exact J.retBoxA rfl rfl rfl (List.nil_sublist _) ⟨⟨_, rfl, RCmd.flat (c := laySvc node s) hu11 rfl⟩, rfl⟩

theorem checks4 {h : Hp} {B : Nat} {node : Int} {T : TypeId} {fr : Nat × Nat} (hB : h B = some (.cells ⟨[.int .i64 node]⟩ T fr)) {s : Chk} : FH Go.Proofs.Try.prog 36 [.agg ⟨chkV s⟩, ptr0 B] h (RV RCmd (layChk node s)) := by
  refine FS.enter Go.Proofs.Try.func36 rfl rfl fun w0 => ?_
  haveI : ∀ L, At h L B (.cells ⟨[.int .i64 node]⟩ T fr) := fun L => At.ofH hB
  refine .seq (.text (.box (cs := [_, _, _, _, _, _, _]) rfl rfl rfl rfl fun b2 => .alloc (cs := [_, _, _, _, _, _, _, _, _, _, _, _, _, _, _, _, _]) rfl rfl rfl fun b3 => .done (.thenN ?_)))
  refine .seq (.text (.ld rfl rfl rfl rfl (.fa rfl rfl (.ld rfl rfl rfl rfl (.fa rfl rfl (.ld rfl rfl rfl rfl (.fa rfl rfl (.ld rfl rfl rfl rfl (.fa rfl rfl (.ld rfl rfl rfl rfl (.bld [_, _, _, _, _, _, _, _, _, _, _, _, _, _, _, _, _] rfl (by rfl) rfl ?_)))))))))))
  refine .stW rfl rfl rfl rfl rfl rfl (.done (.thenN ?_))
  refine .ret ?_
  exact J.retBoxA rfl rfl rfl (List.nil_sublist _) ⟨⟨_, rfl, RCmd.flat (c := layChk node s) (SlR.nil _ _ _) rfl⟩, rfl⟩

theorem servicesK {h : Hp} {node : Int} : FH Go.Proofs.Try.prog 18 [.int .i64 node] h (fun v h' => ∃ B, v = .agg ⟨kSvc B⟩ ∧ h' B = some (.cells ⟨[.int .i64 node]⟩ 3 (0, 0))) := by
  refine FS.enter Go.Proofs.Try.func18 rfl rfl fun w0 => ?_
  refine .seq (.text (.box (cs := [_]) rfl rfl rfl rfl fun b1 => .alloc (cs := [_, _, _, _]) rfl rfl rfl fun b2 => .done (.thenN ?_)))
  refine .seq (.text (.mkF rfl rfl rfl (.mkF rfl rfl rfl (.bld [_, _, _, _] rfl (by rfl) rfl ?_))))
  refine .stW rfl rfl rfl rfl rfl rfl (.done (.thenN ?_))
  refine .ret ?_
  refine J.front 1 rfl (J.frzB fun h' hl hb => ?_)
  exact J.retBoxA rfl rfl rfl (List.nil_sublist _) ⟨⟨_, rfl, hb⟩, rfl⟩

theorem checksK {h : Hp} {node : Int} : FH Go.Proofs.Try.prog 19 [.int .i64 node] h (fun v h' => ∃ B, v = .agg ⟨kChk B⟩ ∧ h' B = some (.cells ⟨[.int .i64 node]⟩ 3 (0, 0))) := by
  refine FS.enter Go.Proofs.Try.func19 rfl rfl fun w0 => ?_
  refine .seq (.text (.box (cs := [_]) rfl rfl rfl rfl fun b1 => .alloc (cs := [_, _, _, _]) rfl rfl rfl fun b2 => .done (.thenN ?_)))
  refine .seq (.text (.mkF rfl rfl rfl (.mkF rfl rfl rfl (.bld [_, _, _, _] rfl (by rfl) rfl ?_))))
  refine .stW rfl rfl rfl rfl rfl rfl (.done (.thenN ?_))
  refine .ret ?_
  refine J.front 1 rfl (J.frzB fun h' hl hb => ?_)
  exact J.retBoxA rfl rfl rfl (List.nil_sublist _) ⟨⟨_, rfl, hb⟩, rfl⟩

theorem knownS {h : Hp} {B : Nat} {v : Value} {xs : List Svc} (hv : SlR h 7 RSvc v xs) : FS Go.Proofs.Try.prog 38 [v, .agg ⟨kSvc B⟩] h [] (fun u h' ms' => h' = h ∧ ∃ m g, ms' = [m] ∧ MpS m u g ∧ KnS h xs g) := by
  refine FS.enter Go.Proofs.Try.func38 rfl rfl fun w0 => ?_
  refine .seq (.text (.box (cs := [_, _, _, _]) rfl rfl rfl rfl fun b3 => .as_ rfl rfl (.done (.thenN ?_))))
  refine .seq (.text (.mkMap rfl rfl fun r8 hm8 => .as_ rfl rfl (.done (.thenN ?_))))
  refine .seq (.seq (.text (.mv rfl rfl (.len hv rfl rfl rfl (.mv rfl rfl ?_)))))
  refine .done (.thenN ?_)
  refine .block (?_)
  refine J.loop (ι := Nat × Hp × (ByteArray → Option Value)) (fun i => i.1 ≤ xs.length ∧ MpS i.2.1 (.map (some r8)) i.2.2 ∧ KnS h (xs.take i.1) i.2.2) (fun i => [(3, .pointer (some ⟨b3, 0, none⟩)), (5, .map (some r8)), (9, v), (10, .int .i64 (xs.length : Int)), (11, .int .i64 (i.1 : Int))]) (fun _ => h) (fun i => [i.2.1, one b3 (.cells ⟨kSvc B⟩ 52 (0, 0))]) (fun i => xs.length - i.1) (0, one r8 (.map #[] 0), fun _ => none) ⟨by simp, hm8, fun id => rfl⟩ (.cons rfl (.cons rfl (.cons rfl (.cons rfl (.cons rfl (.nil _)))))) rfl rfl ?_
  rintro ⟨k, m, g⟩ ⟨hk0, hm, hkn⟩
  dsimp only at hk0 hm hkn ⊢
  refine .seq (.text (.cmp rfl rfl rfl rfl (.done (.thenN ?_))))
  refine .seq (.cond rfl (fun hb3 => ?_) (fun hb3 => ?_))
  ·
    have hk : k < xs.length := by simpa [cmpI] using hb3
    refine .skip (.thenN ?_)
    refine .seq (.block (.seq (.text (.ix hv rfl rfl rfl hk rfl (.ldE hv hk rfl rfl rfl fun vs hvs => ?_)))))
    obtain ⟨tv, rfl, htv⟩ := hvs
    obtain ⟨A, c, rfl⟩ := htv.form
    refine .alloc (cs := [_, _, _, _, _, _, _]) rfl rfl rfl fun b7 => .stW rfl rfl rfl rfl rfl rfl (.done (.thenN ?_))
    refine .draw [(0, .pure), (1, .pure), (2, .read), (3, .read), (5, .read), (4, .grow), (6, .mut)] rfl (by kernel_rfl) (.mv rfl rfl (.fa rfl rfl (.ld rfl rfl rfl rfl (.ldW rfl rfl rfl rfl (.ldW rfl rfl rfl rfl (?_))))))
    refine .callV rfl rfl (services1 (s := xs[k])) rfl rfl (.mapSet hm rfl rfl rfl rfl fun m' hm' => .done (.blkN (.thenN ?_)))
    refine .text (.inc rfl rfl (by have := hv.len; unfold maxL at this; omega) rfl (.mv rfl rfl ?_))
    refine .done (.thenN ?_)
    refine J.drop (List.sublist_cons_self _ _) (J.again (k + 1, m', _) (by simp; omega) ⟨hk, hm', ?_⟩ (.cons rfl (.cons rfl (.cons rfl (.cons rfl (.cons rfl (.nil _)))))) rfl rfl)
    show KnS h (xs.take (k + 1)) _
    rw [take_succ' hk]
    exact hkn.step htv
  ·
    refine .exit (.thenE (.thenE (.blkHit (.thenN ?_))))
    refine .seq (.text (.mv rfl rfl (.as_ rfl rfl (.done (.thenN ?_)))))
    refine .ret ?_
    have hk : k = xs.length := by simp [cmpI] at hb3; omega
    subst hk
    rw [List.take_length] at hkn
    exact J.retTmp rfl (List.Sublist.cons_cons _ (List.nil_sublist _)) ⟨rfl, _, _, rfl, hm, hkn⟩

theorem knownC {h : Hp} {B : Nat} {v : Value} {xs : List Chk} (hv : SlR h 7 RChk v xs) : FS Go.Proofs.Try.prog 37 [v, .agg ⟨kChk B⟩] h [] (fun u h' ms' => h' = h ∧ ∃ m g, ms' = [m] ∧ MpS m u g ∧ KnC h xs g) := by
  refine FS.enter Go.Proofs.Try.func37 rfl rfl fun w0 => ?_
  refine .seq (.text (.box (cs := [_, _, _, _]) rfl rfl rfl rfl fun b3 => .as_ rfl rfl (.done (.thenN ?_))))
  refine .seq (.text (.mkMap rfl rfl fun r8 hm8 => .as_ rfl rfl (.done (.thenN ?_))))
  refine .seq (.seq (.text (.mv rfl rfl (.len hv rfl rfl rfl (.mv rfl rfl ?_)))))
  refine .done (.thenN ?_)
  refine .block (?_)
  refine J.loop (ι := Nat × Hp × (ByteArray → Option Value)) (fun i => i.1 ≤ xs.length ∧ MpS i.2.1 (.map (some r8)) i.2.2 ∧ KnC h (xs.take i.1) i.2.2) (fun i => [(3, .pointer (some ⟨b3, 0, none⟩)), (5, .map (some r8)), (9, v), (10, .int .i64 (xs.length : Int)), (11, .int .i64 (i.1 : Int))]) (fun _ => h) (fun i => [i.2.1, one b3 (.cells ⟨kChk B⟩ 58 (0, 0))]) (fun i => xs.length - i.1) (0, one r8 (.map #[] 0), fun _ => none) ⟨by simp, hm8, fun id => rfl⟩ (.cons rfl (.cons rfl (.cons rfl (.cons rfl (.cons rfl (.nil _)))))) rfl rfl ?_
  rintro ⟨k, m, g⟩ ⟨hk0, hm, hkn⟩
  dsimp only at hk0 hm hkn ⊢
  refine .seq (.text (.cmp rfl rfl rfl rfl (.done (.thenN ?_))))
  refine .seq (.cond rfl (fun hb3 => ?_) (fun hb3 => ?_))
  ·
    have hk : k < xs.length := by simpa [cmpI] using hb3
    refine .skip (.thenN ?_)
    refine .seq (.block (.seq (.text (.ix hv rfl rfl rfl hk rfl (.ldE hv hk rfl rfl rfl fun vs hvs => ?_)))))
    obtain rfl := hvs
    refine .alloc (cs := [_, _, _, _, _, _, _]) rfl rfl rfl fun b7 => .stW rfl rfl rfl rfl rfl rfl (.done (.thenN ?_))
    refine .draw [(0, .pure), (1, .pure), (2, .read), (3, .read), (5, .read), (4, .grow), (6, .mut)] rfl (by kernel_rfl) (.mv rfl rfl (.fa rfl rfl (.ld rfl rfl rfl rfl (.ldW rfl rfl rfl rfl (.ldW rfl rfl rfl rfl (?_))))))
    refine .callV rfl rfl (checks1 (s := xs[k])) rfl rfl (.mapSet hm rfl rfl rfl rfl fun m' hm' => .done (.blkN (.thenN ?_)))
    refine .text (.inc rfl rfl (by have := hv.len; unfold maxL at this; omega) rfl (.mv rfl rfl ?_))
    refine .done (.thenN ?_)
    refine J.drop (List.sublist_cons_self _ _) (J.again (k + 1, m', _) (by simp; omega) ⟨hk, hm', ?_⟩ (.cons rfl (.cons rfl (.cons rfl (.cons rfl (.cons rfl (.nil _)))))) rfl rfl)
    show KnC h (xs.take (k + 1)) _
    rw [take_succ' hk]
    exact hkn.step
  ·
    refine .exit (.thenE (.thenE (.blkHit (.thenN ?_))))
    refine .seq (.text (.mv rfl rfl (.as_ rfl rfl (.done (.thenN ?_)))))
    refine .ret ?_
    have hk : k = xs.length := by simp [cmpI] at hb3; omega
    subst hk
    rw [List.take_length] at hkn
    exact J.retTmp rfl (List.Sublist.cons_cons _ (List.nil_sublist _)) ⟨rfl, _, _, rfl, hm, hkn⟩
end Go.Sod
