/-
  What comes in, read. Conditions: none.
-/
import Derived.Test.YtemcklmfpapmpaaL5
import Derived.Test.YtemcklmfpapmpaaRow
namespace Go.Sod
set_option linter.unusedVariables false
set_option linter.unusedSimpArgs false
set_option maxRecDepth 10000
set_option maxHeartbeats 4000000

def RSvcZ : Rp Svc := fun h s vs => RSvc h s vs ∧ SvcSm s
def RChkZ : Rp Chk := fun h c vs => RChk h c vs ∧ ChkSm c
theorem SlR.svcZ {h : Hp} {v : Value} {xs : List Svc} (s : SlR h 7 RSvcZ v xs) : SlR h 7 RSvc v xs ∧ ∀ x, x ∈ xs → SvcSm x := by
  refine ⟨s.imp fun _ _ _ e => e.1, fun x hx => ?_⟩
  obtain ⟨A, c, _, _, _, h4⟩ := s
  obtain ⟨i, hi, rfl⟩ := List.getElem_of_mem hx
  obtain ⟨vs, _, _, e, _⟩ := h4 i hi
  exact e.2
theorem SlR.chkZ {h : Hp} {v : Value} {xs : List Chk} (s : SlR h 7 RChkZ v xs) : SlR h 7 RChk v xs ∧ ∀ x, x ∈ xs → ChkSm x := by
  refine ⟨s.imp fun _ _ _ e => e.1, fun x hx => ?_⟩
  obtain ⟨A, c, _, _, _, h4⟩ := s
  obtain ⟨i, hi, rfl⟩ := List.getElem_of_mem hx
  obtain ⟨vs, _, _, e, _⟩ := h4 i hi
  exact e.2
theorem SlR.strZ {h : Hp} {v : Value} {xs : List ByteArray} (s : SlR h 1 RSz v xs) : SlR h 1 RS v xs ∧ ∀ x, x ∈ xs → x.size ≤ maxL := by
  refine ⟨s.imp fun _ _ _ e => e.1, fun x hx => ?_⟩
  obtain ⟨A, c, _, _, _, h4⟩ := s
  obtain ⟨i, hi, rfl⟩ := List.getElem_of_mem hx
  obtain ⟨vs, _, _, e, _⟩ := h4 i hi
  exact e.2
section
variable {H : Type} {enc : TypeId × Value → H} {W : World} {bulk : DataW H → Nat}
theorem rdNod (B : Blk H bulk) : Rd enc Go.Proofs.Try.prog W bulk 50 4 RNod := fun fuel cs x h hb => by
  have hl := rd_len (f := 0) (n := 4) h
  match cs, hl with
  | [c0, c1, c2, c3], _ =>
    obtain ⟨a0, h0, _⟩ := rd_fld (n := 1) (R := RI .i64) B 0 h hb Rd.int
    obtain ⟨a1, h1, _⟩ := rd_fld (n := 1) (R := RS) B 1 h hb Rd.str
    obtain ⟨a2, h2, _⟩ := rd_fld (n := 1) (R := RI .u64) B 2 h hb Rd.int
    obtain ⟨a3, h3, _⟩ := rd_fld (n := 1) (R := RI .u64) B 3 h hb Rd.int
    obtain rfl : c0 = .int .i64 a0 := by simpa [RI] using h0
    obtain rfl : c1 = .string a1 := by simpa [RS] using h1
    obtain rfl : c2 = .int .u64 a2 := by simpa [RI] using h2
    obtain rfl : c3 = .int .u64 a3 := by simpa [RI] using h3
    exact ⟨⟨a0, a1, a2, a3⟩, rfl, rfl, rfl⟩
theorem rdSvcZ (B : Blk H bulk) : Rd enc Go.Proofs.Try.prog W bulk 58 7 RSvcZ := fun fuel cs x h hb => by
  have hl := rd_len (f := 0) (n := 7) h
  match cs, hl with
  | [c0, c1, c2, c3, c4, c5, c6], _ =>
    obtain ⟨a0, h0, _⟩ := rd_fld (n := 1) (R := RI .i64) B 0 h hb Rd.int
    obtain ⟨a1, ⟨h1, z1⟩, _⟩ := rd_fld (n := 1) (R := RSz) B 1 h hb (Rd.strZ B)
    obtain ⟨a2, ⟨h2, z2⟩, _⟩ := rd_fld (n := 1) (R := RSz) B 2 h hb (Rd.strZ B)
    obtain ⟨a3, ⟨v3, h3, hs⟩, _⟩ := rd_fld (n := 1) (R := RL 1 RSz) B 3 h hb (Rd.slice B (by decide) (Rd.strZ B))
    obtain ⟨a4, h4, _⟩ := rd_fld (n := 1) (R := RI .i64) B 4 h hb Rd.int
    obtain ⟨a5, h5, _⟩ := rd_fld (n := 1) (R := RI .u64) B 5 h hb Rd.int
    obtain ⟨a6, h6, _⟩ := rd_fld (n := 1) (R := RI .u64) B 6 h hb Rd.int
    obtain rfl : c0 = .int .i64 a0 := by simpa [RI] using h0
    obtain rfl : c1 = .string a1 := by simpa using h1
    obtain rfl : c2 = .string a2 := by simpa using h2
    obtain rfl : c3 = v3 := by simpa using h3
    obtain rfl : c4 = .int .i64 a4 := by simpa [RI] using h4
    obtain rfl : c5 = .int .u64 a5 := by simpa [RI] using h5
    obtain rfl : c6 = .int .u64 a6 := by simpa [RI] using h6
    obtain ⟨hs1, hs2⟩ := hs.strZ
    obtain ⟨A, c, rfl⟩ := hs1.form
    exact ⟨⟨a0, a1, a2, a3, a4, a5, a6⟩, ⟨⟨_, rfl, hs1⟩, z1, z2, hs2⟩, rfl, rfl⟩
theorem rdChkZ (B : Blk H bulk) : Rd enc Go.Proofs.Try.prog W bulk 63 7 RChkZ := fun fuel cs x h hb => by
  have hl := rd_len (f := 0) (n := 7) h
  match cs, hl with
  | [c0, c1, c2, c3, c4, c5, c6], _ =>
    obtain ⟨a0, h0, _⟩ := rd_fld (n := 1) (R := RI .i64) B 0 h hb Rd.int
    obtain ⟨a1, ⟨h1, z1⟩, _⟩ := rd_fld (n := 1) (R := RSz) B 1 h hb (Rd.strZ B)
    obtain ⟨a2, ⟨h2, z2⟩, _⟩ := rd_fld (n := 1) (R := RSz) B 2 h hb (Rd.strZ B)
    obtain ⟨a3, h3, _⟩ := rd_fld (n := 1) (R := RS) B 3 h hb Rd.str
    obtain ⟨a4, h4, _⟩ := rd_fld (n := 1) (R := RI .i64) B 4 h hb Rd.int
    obtain ⟨a5, h5, _⟩ := rd_fld (n := 1) (R := RI .u64) B 5 h hb Rd.int
    obtain ⟨a6, h6, _⟩ := rd_fld (n := 1) (R := RI .u64) B 6 h hb Rd.int
    obtain rfl : c0 = .int .i64 a0 := by simpa [RI] using h0
    obtain rfl : c1 = .string a1 := by simpa using h1
    obtain rfl : c2 = .string a2 := by simpa using h2
    obtain rfl : c3 = .string a3 := by simpa [RS] using h3
    obtain rfl : c4 = .int .i64 a4 := by simpa [RI] using h4
    obtain rfl : c5 = .int .u64 a5 := by simpa [RI] using h5
    obtain rfl : c6 = .int .u64 a6 := by simpa [RI] using h6
    exact ⟨⟨a0, a1, a2, a3, a4, a5, a6⟩, ⟨rfl, z1, z2⟩, rfl, rfl⟩


structure ToldP where
  ns : List Nod
  ss : List Svc
  cs : List Chk
  l0 : Int
  l1 : Int
  l2 : Int
def RTold : Rp ToldP := fun h x vs => ∃ nv sv cv, vs = [nv, sv, cv, .int .u64 x.l0, .int .u64 x.l1, .int .u64 x.l2] ∧ SlR h 4 RNod nv x.ns ∧ SlR h 7 RSvcZ sv x.ss ∧ SlR h 7 RChkZ cv x.cs ∧ 0 ≤ x.l0 ∧ 0 ≤ x.l1 ∧ 0 ≤ x.l2
theorem wf_u64 {n : Int} (h : (Lit.int .u64 n).wf = true) : 0 ≤ n := by
  simp only [Lit.wf, Bool.and_eq_true, decide_eq_true_eq] at h
  exact h.1
theorem rdTold (B : Blk H bulk) : Rd enc Go.Proofs.Try.prog W bulk 28 6 RTold := fun fuel cs x h hb => by
  have hl := rd_len (f := 0) (n := 6) h
  match cs, hl with
  | [c0, c1, c2, c3, c4, c5], _ =>
    obtain ⟨a0, ⟨v0, h0, s0⟩, _⟩ := rd_fld (n := 1) (R := RL 4 RNod) B 0 h hb (Rd.slice B (by decide) (rdNod B))
    obtain ⟨a1, ⟨v1, h1, s1⟩, _⟩ := rd_fld (n := 1) (R := RL 7 RSvcZ) B 1 h hb (Rd.slice B (by decide) (rdSvcZ B))
    obtain ⟨a2, ⟨v2, h2, s2⟩, _⟩ := rd_fld (n := 1) (R := RL 7 RChkZ) B 2 h hb (Rd.slice B (by decide) (rdChkZ B))
    obtain ⟨a3, ⟨h3, w0, w1, w2⟩, _⟩ := rd_fld (n := 3) B 3 h hb (Rd.arr3 (k := .u64))
    obtain rfl : c0 = v0 := by simpa using h0
    obtain rfl : c1 = v1 := by simpa using h1
    obtain rfl : c2 = v2 := by simpa using h2
    simp only [List.drop_succ_cons, List.drop_zero, List.take_succ_cons, List.take_zero, List.cons.injEq, and_true] at h3
    obtain ⟨rfl, rfl, rfl⟩ := h3
    obtain ⟨A, c, rfl⟩ := s0.form
    obtain ⟨A', c', rfl⟩ := s1.form
    obtain ⟨A'', c'', rfl⟩ := s2.form
    exact ⟨⟨a0, a1, a2, a3.1, a3.2.1, a3.2.2⟩, ⟨_, _, _, rfl, s0, s1, s2, wf_u64 w0, wf_u64 w1, wf_u64 w2⟩, rfl, rfl⟩
end
end Go.Sod
