/-
  The inputs of the laws of diff, read. Conditions: none.
-/
import Derived.Test.YthlffjbmmoglfaaD8
import Derived.Test.YthlffjbmmoglfaaRow
namespace Go.Sod
set_option linter.unusedVariables false
set_option linter.unusedSimpArgs false
set_option maxRecDepth 10000
set_option maxHeartbeats 4000000

section
variable {H : Type} {enc : TypeId × Value → H} {W : World} {bulk : DataW H → Nat}
theorem rdSvc (B : Blk H bulk) : Rd enc Go.Proofs.Try.prog W bulk 38 7 RSvc := fun fuel cs x h hb => by
  have hl := rd_len (f := 0) (n := 7) h
  match cs, hl with
  | [c0, c1, c2, c3, c4, c5, c6], _ =>
    obtain ⟨a0, h0, _⟩ := rd_fld (n := 1) (R := RI .i64) B 0 h hb Rd.int
    obtain ⟨a1, h1, _⟩ := rd_fld (n := 1) (R := RS) B 1 h hb Rd.str
    obtain ⟨a2, h2, _⟩ := rd_fld (n := 1) (R := RS) B 2 h hb Rd.str
    obtain ⟨a3, ⟨v3, h3, hs⟩, _⟩ := rd_fld (n := 1) (R := RL 1 RS) B 3 h hb (Rd.slice B (by decide) Rd.str)
    obtain ⟨a4, h4, _⟩ := rd_fld (n := 1) (R := RI .i64) B 4 h hb Rd.int
    obtain ⟨a5, h5, _⟩ := rd_fld (n := 1) (R := RI .u64) B 5 h hb Rd.int
    obtain ⟨a6, h6, _⟩ := rd_fld (n := 1) (R := RI .u64) B 6 h hb Rd.int
    obtain rfl : c0 = .int .i64 a0 := by simpa [RI] using h0
    obtain rfl : c1 = .string a1 := by simpa [RS] using h1
    obtain rfl : c2 = .string a2 := by simpa [RS] using h2
    obtain rfl : c3 = v3 := by simpa using h3
    obtain rfl : c4 = .int .i64 a4 := by simpa [RI] using h4
    obtain rfl : c5 = .int .u64 a5 := by simpa [RI] using h5
    obtain rfl : c6 = .int .u64 a6 := by simpa [RI] using h6
    obtain ⟨A, c, rfl⟩ := hs.form
    exact ⟨⟨a0, a1, a2, a3, a4, a5, a6⟩, ⟨_, rfl, hs⟩, rfl, rfl⟩
theorem rdChk (B : Blk H bulk) : Rd enc Go.Proofs.Try.prog W bulk 40 7 RChk := fun fuel cs x h hb => by
  have hl := rd_len (f := 0) (n := 7) h
  match cs, hl with
  | [c0, c1, c2, c3, c4, c5, c6], _ =>
    obtain ⟨a0, h0, _⟩ := rd_fld (n := 1) (R := RI .i64) B 0 h hb Rd.int
    obtain ⟨a1, h1, _⟩ := rd_fld (n := 1) (R := RS) B 1 h hb Rd.str
    obtain ⟨a2, h2, _⟩ := rd_fld (n := 1) (R := RS) B 2 h hb Rd.str
    obtain ⟨a3, h3, _⟩ := rd_fld (n := 1) (R := RS) B 3 h hb Rd.str
    obtain ⟨a4, h4, _⟩ := rd_fld (n := 1) (R := RI .i64) B 4 h hb Rd.int
    obtain ⟨a5, h5, _⟩ := rd_fld (n := 1) (R := RI .u64) B 5 h hb Rd.int
    obtain ⟨a6, h6, _⟩ := rd_fld (n := 1) (R := RI .u64) B 6 h hb Rd.int
    obtain rfl : c0 = .int .i64 a0 := by simpa [RI] using h0
    obtain rfl : c1 = .string a1 := by simpa [RS] using h1
    obtain rfl : c2 = .string a2 := by simpa [RS] using h2
    obtain rfl : c3 = .string a3 := by simpa [RS] using h3
    obtain rfl : c4 = .int .i64 a4 := by simpa [RI] using h4
    obtain rfl : c5 = .int .u64 a5 := by simpa [RI] using h5
    obtain rfl : c6 = .int .u64 a6 := by simpa [RI] using h6
    exact ⟨⟨a0, a1, a2, a3, a4, a5, a6⟩, rfl, rfl, rfl⟩
theorem rdOwn (B : Blk H bulk) : Rd enc Go.Proofs.Try.prog W bulk 25 5 ROwn := fun fuel cs x h hb => by
  have hl := rd_len (f := 0) (n := 5) h
  match cs, hl with
  | [c0, c1, c2, c3, c4], _ =>
    obtain ⟨a0, h0, _⟩ := rd_fld (n := 1) (R := RB) B 0 h hb Rd.bool
    obtain ⟨a1, h1, _⟩ := rd_fld (n := 1) (R := RI .i64) B 1 h hb Rd.int
    obtain ⟨a2, h2, _⟩ := rd_fld (n := 1) (R := RS) B 2 h hb Rd.str
    obtain ⟨a3, ⟨v3, h3, hs⟩, _⟩ := rd_fld (n := 1) (R := RL 7 RSvc) B 3 h hb (Rd.slice B (by decide) (rdSvc B))
    obtain ⟨a4, ⟨v4, h4, hc⟩, _⟩ := rd_fld (n := 1) (R := RL 7 RChk) B 4 h hb (Rd.slice B (by decide) (rdChk B))
    obtain rfl : c0 = .bool a0 := by simpa [RB] using h0
    obtain rfl : c1 = .int .i64 a1 := by simpa [RI] using h1
    obtain rfl : c2 = .string a2 := by simpa [RS] using h2
    obtain rfl : c3 = v3 := by simpa using h3
    obtain rfl : c4 = v4 := by simpa using h4
    obtain ⟨A, c, rfl⟩ := hs.form
    obtain ⟨A', c', rfl⟩ := hc.form
    exact ⟨⟨a0, a1, a2, a3, a4⟩, ⟨_, _, rfl, hs, hc⟩, rfl, rfl⟩
end
end Go.Sod
