/-
  What comes in, read. Conditions: none.
-/
import Derived.Test.YtemcklmfpapmpaaGreatX7
import Derived.Test.YtemcklmfpapmpaaGreatRow
namespace Go.Sod
set_option linter.unusedVariables false
set_option linter.unusedSimpArgs false
set_option maxRecDepth 10000
set_option maxHeartbeats 4000000

def RSvcZ : Rp Svc := fun h s vs => RSvc h s vs ∧ SvcSm s
def RChkZ : Rp Chk := fun h c vs => RChk h c vs ∧ ChkSm c
theorem SlR.svcZ {h : Hp} {v : Value} {xs : List Svc} (s : SlR h 7 RSvcZ v xs) : SlR h 7 RSvc v xs ∧ ∀ x, x ∈ xs → SvcSm x := by
  refine ⟨s.imp fun _ _ _ e => e.1, fun x hx => ?_⟩
  obtain ⟨A, c, _, _, _, h4⟩ := s
  obtain ⟨i, hi, rfl⟩ := List.getElem_of_mem hx
  obtain ⟨vs, _, _, e, _⟩ := h4 i hi
  exact e.2
theorem SlR.chkZ {h : Hp} {v : Value} {xs : List Chk} (s : SlR h 7 RChkZ v xs) : SlR h 7 RChk v xs ∧ ∀ x, x ∈ xs → ChkSm x := by
  refine ⟨s.imp fun _ _ _ e => e.1, fun x hx => ?_⟩
  obtain ⟨A, c, _, _, _, h4⟩ := s
  obtain ⟨i, hi, rfl⟩ := List.getElem_of_mem hx
  obtain ⟨vs, _, _, e, _⟩ := h4 i hi
  exact e.2
theorem SlR.strZ {h : Hp} {v : Value} {xs : List ByteArray} (s : SlR h 1 RSz v xs) : SlR h 1 RS v xs ∧ ∀ x, x ∈ xs → x.size ≤ maxL := by
  refine ⟨s.imp fun _ _ _ e => e.1, fun x hx => ?_⟩
  obtain ⟨A, c, _, _, _, h4⟩ := s
  obtain ⟨i, hi, rfl⟩ := List.getElem_of_mem hx
  obtain ⟨vs, _, _, e, _⟩ := h4 i hi
  exact e.2
section
variable {H : Type} {enc : TypeId × Value → H} {W : World} {bulk : DataW H → Nat}
theorem rdNod (B : Blk H bulk) : Rd enc Go.Proofs.Tryz.prog W bulk 49 4 RNod := fun fuel cs x h hb => by
  have hl := rd_len (f := 0) (n := 4) h
  match cs, hl with
  | [c0, c1, c2, c3], _ =>
    obtain ⟨a0, h0, _⟩ := rd_fld (n := 1) (R := RI .i64) B 0 h hb Rd.int
    obtain ⟨a1, h1, _⟩ := rd_fld (n := 1) (R := RS) B 1 h hb Rd.str
    obtain ⟨a2, h2, _⟩ := rd_fld (n := 1) (R := RI .u64) B 2 h hb Rd.int
    obtain ⟨a3, h3, _⟩ := rd_fld (n := 1) (R := RI .u64) B 3 h hb Rd.int
    obtain rfl : c0 = .int .i64 a0 := by simpa [RI] using h0
    obtain rfl : c1 = .string a1 := by simpa [RS] using h1
    obtain rfl : c2 = .int .u64 a2 := by simpa [RI] using h2
    obtain rfl : c3 = .int .u64 a3 := by simpa [RI] using h3
    exact ⟨⟨a0, a1, a2, a3⟩, rfl, rfl, rfl⟩
theorem rdSvcZ (B : Blk H bulk) : Rd enc Go.Proofs.Tryz.prog W bulk 31 7 RSvcZ := fun fuel cs x h hb => by
  have hl := rd_len (f := 0) (n := 7) h
  match cs, hl with
  | [c0, c1, c2, c3, c4, c5, c6], _ =>
    obtain ⟨a0, h0, _⟩ := rd_fld (n := 1) (R := RI .i64) B 0 h hb Rd.int
    obtain ⟨a1, ⟨h1, z1⟩, _⟩ := rd_fld (n := 1) (R := RSz) B 1 h hb (Rd.strZ B)
    obtain ⟨a2, ⟨h2, z2⟩, _⟩ := rd_fld (n := 1) (R := RSz) B 2 h hb (Rd.strZ B)
    obtain ⟨a3, ⟨v3, h3, hs⟩, _⟩ := rd_fld (n := 1) (R := RL 1 RSz) B 3 h hb (Rd.slice B (by decide) (Rd.strZ B))
    obtain ⟨a4, h4, _⟩ := rd_fld (n := 1) (R := RI .i64) B 4 h hb Rd.int
    obtain ⟨a5, h5, _⟩ := rd_fld (n := 1) (R := RI .u64) B 5 h hb Rd.int
    obtain ⟨a6, h6, _⟩ := rd_fld (n := 1) (R := RI .u64) B 6 h hb Rd.int
    obtain rfl : c0 = .int .i64 a0 := by simpa [RI] using h0
    obtain rfl : c1 = .string a1 := by simpa using h1
    obtain rfl : c2 = .string a2 := by simpa using h2
    obtain rfl : c3 = v3 := by simpa using h3
    obtain rfl : c4 = .int .i64 a4 := by simpa [RI] using h4
    obtain rfl : c5 = .int .u64 a5 := by simpa [RI] using h5
    obtain rfl : c6 = .int .u64 a6 := by simpa [RI] using h6
    obtain ⟨hs1, hs2⟩ := hs.strZ
    obtain ⟨A, c, rfl⟩ := hs1.form
    exact ⟨⟨a0, a1, a2, a3, a4, a5, a6⟩, ⟨⟨_, rfl, hs1⟩, z1, z2, hs2⟩, rfl, rfl⟩
theorem rdChkZ (B : Blk H bulk) : Rd enc Go.Proofs.Tryz.prog W bulk 33 7 RChkZ := fun fuel cs x h hb => by
  have hl := rd_len (f := 0) (n := 7) h
  match cs, hl with
  | [c0, c1, c2, c3, c4, c5, c6], _ =>
    obtain ⟨a0, h0, _⟩ := rd_fld (n := 1) (R := RI .i64) B 0 h hb Rd.int
    obtain ⟨a1, ⟨h1, z1⟩, _⟩ := rd_fld (n := 1) (R := RSz) B 1 h hb (Rd.strZ B)
    obtain ⟨a2, ⟨h2, z2⟩, _⟩ := rd_fld (n := 1) (R := RSz) B 2 h hb (Rd.strZ B)
    obtain ⟨a3, h3, _⟩ := rd_fld (n := 1) (R := RS) B 3 h hb Rd.str
    obtain ⟨a4, h4, _⟩ := rd_fld (n := 1) (R := RI .i64) B 4 h hb Rd.int
    obtain ⟨a5, h5, _⟩ := rd_fld (n := 1) (R := RI .u64) B 5 h hb Rd.int
    obtain ⟨a6, h6, _⟩ := rd_fld (n := 1) (R := RI .u64) B 6 h hb Rd.int
    obtain rfl : c0 = .int .i64 a0 := by simpa [RI] using h0
    obtain rfl : c1 = .string a1 := by simpa using h1
    obtain rfl : c2 = .string a2 := by simpa using h2
    obtain rfl : c3 = .string a3 := by simpa [RS] using h3
    obtain rfl : c4 = .int .i64 a4 := by simpa [RI] using h4
    obtain rfl : c5 = .int .u64 a5 := by simpa [RI] using h5
    obtain rfl : c6 = .int .u64 a6 := by simpa [RI] using h6
    exact ⟨⟨a0, a1, a2, a3, a4, a5, a6⟩, ⟨rfl, z1, z2⟩, rfl, rfl⟩


def RStpZ : Rp Stp := fun h s vs => RStp h s vs ∧ StpSm s
theorem SlR.stpZ {h : Hp} {v : Value} {xs : List Stp} (s : SlR h 18 RStpZ v xs) : SlR h 18 RStp v xs ∧ ∀ x, x ∈ xs → StpSm x := by
  refine ⟨s.imp fun _ _ _ e => e.1, fun x hx => ?_⟩
  obtain ⟨A, c, _, _, _, h4⟩ := s
  obtain ⟨i, hi, rfl⟩ := List.getElem_of_mem hx
  obtain ⟨vs, _, _, e, _⟩ := h4 i hi
  exact e.2
theorem rdStp (B : Blk H bulk) : Rd enc Go.Proofs.Tryz.prog W bulk 35 18 RStpZ := fun fuel cs x h hb => by
  have hl := rd_len (f := 0) (n := 18) h
  match cs, hl with
  | [c0, c1, c2, d0, d1, d2, d3, d4, d5, d6, e0, e1, e2, e3, e4, e5, e6, c5], _ =>
    obtain ⟨a0, h0, _⟩ := rd_fld (n := 1) (R := RI .i64) B 0 h hb Rd.int
    obtain ⟨a1, h1, _⟩ := rd_fld (n := 1) (R := RI .i64) B 1 h hb Rd.int
    obtain ⟨a2, ⟨h2, z2⟩, _⟩ := rd_fld (n := 1) (R := RSz) B 2 h hb (Rd.strZ B)
    obtain ⟨a3, ⟨⟨tv, h3, ht⟩, z3⟩, o3⟩ := rd_fld (n := 7) (R := RSvcZ) B 3 h hb (rdSvcZ B)
    obtain ⟨a4, ⟨h4, z4⟩, _⟩ := rd_fld (n := 7) (R := RChkZ) B 4 h hb (rdChkZ B)
    obtain ⟨a5, h5, _⟩ := rd_fld (n := 1) (R := RI .u64) B 5 h hb Rd.int
    obtain rfl : c0 = .int .i64 a0 := by simpa [RI] using h0
    obtain rfl : c1 = .int .i64 a1 := by simpa [RI] using h1
    obtain rfl : c2 = .string a2 := by simpa using h2
    obtain rfl : c5 = .int .u64 a5 := by simpa [RI] using h5
    obtain ⟨A, c, rfl⟩ := ht.form
    simp only [List.drop_succ_cons, List.drop_zero, List.take_succ_cons, List.take_zero, List.cons.injEq, and_true] at h3
    replace h4 : [e0, e1, e2, e3, e4, e5, e6] = _ := h4
    simp only [List.cons.injEq, and_true] at h4
    obtain ⟨rfl, rfl, rfl, rfl, rfl, rfl, rfl⟩ := h3
    obtain ⟨rfl, rfl, rfl, rfl, rfl, rfl, rfl⟩ := h4
    exact ⟨⟨a0, a1, a2, a3, a4, a5⟩, ⟨⟨_, rfl, ht⟩, z2, z3, z4⟩, rfl, rfl⟩
end
end Go.Sod
