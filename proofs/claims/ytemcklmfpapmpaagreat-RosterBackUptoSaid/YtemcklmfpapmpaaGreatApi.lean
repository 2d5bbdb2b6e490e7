/-
  The program's plain data, and how they lie in memory. Conditions: none.
-/
import Derived.Test.YtemcklmfpapmpaaGreatCore21
namespace Go.Sod
set_option linter.unusedVariables false

structure Svc where
  node : Int
  id : ByteArray
  name : ByteArray
  tags : List ByteArray
  port : Int
  made : Int
  ix : Int
structure Chk where
  node : Int
  id : ByteArray
  service : ByteArray
  note : ByteArray
  status : Int
  made : Int
  ix : Int
structure Nod where
  node : Int
  addr : ByteArray
  made : Int
  ix : Int
structure Row (α : Type) where
  key : ByteArray
  val : α
  made : Int
  ix : Int
structure Own where
  there : Bool
  node : Int
  addr : ByteArray
  services : List Svc
  checks : List Chk
structure Cmd where
  kind : Int
  node : Int
  port : Int
  status : Int
  id : ByteArray
  name : ByteArray
  service : ByteArray
  note : ByteArray
  key : ByteArray
  value : ByteArray
  src : ByteArray
  dst : ByteArray
  tags : List ByteArray
  allow : Bool
  old : Int
  session : Int
  subs : List Cmd

def RSvc : Rp Svc := fun h s vs => ∃ tv, vs = [.int .i64 s.node, .string s.id, .string s.name, tv, .int .i64 s.port, .int .u64 s.made, .int .u64 s.ix] ∧ SlR h 1 RS tv s.tags
def RChk : Rp Chk := fun _ c vs => vs = [.int .i64 c.node, .string c.id, .string c.service, .string c.note, .int .i64 c.status, .int .u64 c.made, .int .u64 c.ix]
def RNod : Rp Nod := fun _ n vs => vs = [.int .i64 n.node, .string n.addr, .int .u64 n.made, .int .u64 n.ix]
theorem RNod.mono : Mono RNod := fun _ _ _ _ _ e => e
def RRow {α : Type} (R : Rp α) : Rp (Row α) := fun h r vs => ∃ ws, vs = .string r.key :: (ws ++ [.int .u64 r.made, .int .u64 r.ix]) ∧ R h r.val ws
theorem RRow.mono {α : Type} {R : Rp α} (hR : Mono R) : Mono (RRow R) := fun h h' r vs l ⟨ws, e, s⟩ => ⟨ws, e, hR _ _ _ _ l s⟩
/-- a table: its box, and its rows -/
def Tb {α : Type} (sz : Nat) (e T : TypeId) (R : Rp α) (m h : Hp) (tb : Nat) (most : Int) (xs : List (Row α)) (last : Int) : Prop :=
  ∃ rv mr, m = (one tb (.cells ⟨[.int .i64 most, rv, .int .u64 last]⟩ T (0, 0))).un mr ∧ (one tb (.cells ⟨[.int .i64 most, rv, .int .u64 last]⟩ T (0, 0))).dis mr ∧ SlT mr h rv sz e (RRow R) xs
theorem Tb.mono {α : Type} {sz : Nat} {e T : TypeId} {R : Rp α} {m h h' : Hp} {tb : Nat} {most : Int} {xs : List (Row α)} {last : Int} (t : Tb sz e T R m h tb most xs last) (hR : Mono R) (l : h.le h') : Tb sz e T R m h' tb most xs last := by
  obtain ⟨rv, mr, h1, h2, h3⟩ := t
  exact ⟨rv, mr, h1, h2, h3.mono (RRow.mono hR) l⟩
def ROwn : Rp Own := fun h o vs => ∃ sv cv, vs = [.bool o.there, .int .i64 o.node, .string o.addr, sv, cv] ∧ SlR h 7 RSvc sv o.services ∧ SlR h 7 RChk cv o.checks
/-- commands that hold commands, n deep -/
def RCmdN : Nat → Rp Cmd
  | 0 => fun _ _ _ => False
  | n + 1 => fun h c vs => ∃ tv sv, vs = [.int .i64 c.kind, .int .i64 c.node, .int .i64 c.port, .int .i64 c.status, .string c.id, .string c.name, .string c.service, .string c.note, .string c.key, .string c.value, .string c.src, .string c.dst, tv, .bool c.allow, .int .u64 c.old, .int .u64 c.session, sv] ∧ SlR h 1 RS tv c.tags ∧ SlR h 17 (RCmdN n) sv c.subs
def RCmd : Rp Cmd := fun h c vs => ∃ n, RCmdN n h c vs

theorem RSvc.mono : Mono RSvc := fun h h' x vs l ⟨tv, e, s⟩ => ⟨tv, e, s.mono RS.mono l⟩
theorem RChk.mono : Mono RChk := fun _ _ _ _ _ e => e
theorem ROwn.mono : Mono ROwn := fun h h' x vs l ⟨sv, cv, e, s, c⟩ => ⟨sv, cv, e, s.mono RSvc.mono l, c.mono RChk.mono l⟩
theorem RCmdN.mono : ∀ n, Mono (RCmdN n)
  | 0 => fun _ _ _ _ _ e => e
  | n + 1 => fun h h' x vs l ⟨tv, sv, e, s, c⟩ => ⟨tv, sv, e, s.mono RS.mono l, c.mono (RCmdN.mono n) l⟩
theorem RCmd.mono : Mono RCmd := fun h h' x vs l ⟨n, e⟩ => ⟨n, RCmdN.mono n h h' x vs l e⟩
/-- the same way of lying -/
theorem SlR.imp {α : Type} {h : Hp} {sz : Nat} {R R' : Rp α} {v : Value} {xs : List α} (s : SlR h sz R v xs) (hR : ∀ x vs, x ∈ xs → R h x vs → R' h x vs) : SlR h sz R' v xs := by
  obtain ⟨A, c, h1, h2, h3, h4⟩ := s
  refine ⟨A, c, h1, h2, h3, fun i hi => ?_⟩
  obtain ⟨vs, a, o, b, e⟩ := h4 i hi
  exact ⟨vs, a, o, hR _ _ (List.getElem_mem hi) b, e⟩
theorem RCmdN.le : ∀ {n m : Nat}, n ≤ m → ∀ {h : Hp} {c : Cmd} {vs : List Value}, RCmdN n h c vs → RCmdN m h c vs
  | 0, _, _, _, _, _, e => e.elim
  | n + 1, 0, hl, _, _, _, _ => by omega
  | n + 1, m + 1, hl, _, _, _, ⟨tv, sv, e, s, c⟩ => ⟨tv, sv, e, s, c.imp fun _ _ _ => RCmdN.le (by omega)⟩

theorem RCmd.form {h : Hp} {c : Cmd} {vs : List Value} (e : RCmd h c vs) : vs.length = 17 ∧ vs.all oneV = true := by
  obtain ⟨n, e⟩ := e
  cases n with
  | zero => exact e.elim
  | succ n =>
    obtain ⟨tv, sv, rfl, ht, hs⟩ := e
    obtain ⟨A, c, rfl⟩ := ht.form
    obtain ⟨A, c, rfl⟩ := hs.form
    exact ⟨rfl, rfl⟩
section
variable {h : Hp} {vs : List Value}
theorem RSvc.f1 {s : Svc} (e : RSvc h s vs) : vs[1]? = some (.string s.id) := by obtain ⟨tv, rfl, _⟩ := e; rfl
theorem RSvc.f2 {s : Svc} (e : RSvc h s vs) : vs[2]? = some (.string s.name) := by obtain ⟨tv, rfl, _⟩ := e; rfl
theorem RSvc.f4 {s : Svc} (e : RSvc h s vs) : vs[4]? = some (.int .i64 s.port) := by obtain ⟨tv, rfl, _⟩ := e; rfl
theorem RSvc.tags {s : Svc} {u : Value} : (∃ vs, RSvc h s vs ∧ vs[3]? = some u) → SlR h 1 RS u s.tags := by
  rintro ⟨vs, ⟨tv, rfl, ht⟩, e⟩
  obtain rfl : tv = u := by simpa using e
  exact ht
theorem RChk.f1 {s : Chk} (e : RChk h s vs) : vs[1]? = some (.string s.id) := by obtain rfl := e; rfl
theorem RChk.f2 {s : Chk} (e : RChk h s vs) : vs[2]? = some (.string s.service) := by obtain rfl := e; rfl
theorem RChk.f3 {s : Chk} (e : RChk h s vs) : vs[3]? = some (.string s.note) := by obtain rfl := e; rfl
theorem RChk.f4 {s : Chk} (e : RChk h s vs) : vs[4]? = some (.int .i64 s.status) := by obtain rfl := e; rfl
theorem RCmd.open {c : Cmd} (e : RCmd h c vs) : ∃ tv sv, vs = [.int .i64 c.kind, .int .i64 c.node, .int .i64 c.port, .int .i64 c.status, .string c.id, .string c.name, .string c.service, .string c.note, .string c.key, .string c.value, .string c.src, .string c.dst, tv, .bool c.allow, .int .u64 c.old, .int .u64 c.session, sv] ∧ SlR h 1 RS tv c.tags := by
  obtain ⟨n, e⟩ := e
  cases n with
  | zero => exact e.elim
  | succ n =>
    obtain ⟨tv, sv, rfl, ht, hs⟩ := e
    exact ⟨tv, sv, rfl, ht⟩
theorem RCmd.succ {c : Cmd} (e : RCmd h c vs) : ∃ n tv sv, vs = [.int .i64 c.kind, .int .i64 c.node, .int .i64 c.port, .int .i64 c.status, .string c.id, .string c.name, .string c.service, .string c.note, .string c.key, .string c.value, .string c.src, .string c.dst, tv, .bool c.allow, .int .u64 c.old, .int .u64 c.session, sv] ∧ SlR h 1 RS tv c.tags ∧ SlR h 17 (RCmdN n) sv c.subs := by
  obtain ⟨n, e⟩ := e
  cases n with
  | zero => exact e.elim
  | succ n => obtain ⟨tv, sv, rfl, ht, hs⟩ := e; exact ⟨n, tv, sv, rfl, ht, hs⟩
theorem RCmd.mono' {c : Cmd} {h' : Hp} (e : RCmd h c vs) (l : h.le h') : RCmd h' c vs := RCmd.mono _ _ _ _ l e
theorem RCmd.sub {c : Cmd} {a0 a1 a2 a3 a4 a5 a6 a7 a8 a9 a10 a11 a12 a13 a14 a15 a16 : Value} (e : RCmd h c [a0, a1, a2, a3, a4, a5, a6, a7, a8, a9, a10, a11, a12, a13, a14, a15, a16]) : ∃ A n c, a16 = .slice A n c := by
  obtain ⟨n, e⟩ := e
  cases n with
  | zero => exact e.elim
  | succ n =>
    obtain ⟨tv, sv, e, ht, hs⟩ := e
    obtain ⟨A, c, rfl⟩ := hs.form
    simp only [List.cons.injEq, and_true] at e
    exact ⟨A, _, c, e.2.2.2.2.2.2.2.2.2.2.2.2.2.2.2.2⟩
theorem RCmd.f0 {c : Cmd} (e : RCmd h c vs) : vs[0]? = some (.int .i64 c.kind) := by obtain ⟨tv, sv, rfl, _⟩ := e.open; rfl
theorem RCmd.f1 {c : Cmd} (e : RCmd h c vs) : vs[1]? = some (.int .i64 c.node) := by obtain ⟨tv, sv, rfl, _⟩ := e.open; rfl
theorem RCmd.f7 {c : Cmd} (e : RCmd h c vs) : vs[7]? = some (.string c.note) := by obtain ⟨tv, sv, rfl, _⟩ := e.open; rfl
end
/-- a command with nothing but its kind and node -/
def cmd0 (kind node : Int) : Cmd := ⟨kind, node, 0, 0, ⟨#[]⟩, ⟨#[]⟩, ⟨#[]⟩, ⟨#[]⟩, ⟨#[]⟩, ⟨#[]⟩, ⟨#[]⟩, ⟨#[]⟩, [], false, 0, 0, []⟩
end Go.Sod
