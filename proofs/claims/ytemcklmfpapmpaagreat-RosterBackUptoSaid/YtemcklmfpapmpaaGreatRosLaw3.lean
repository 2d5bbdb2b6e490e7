/-
  The plain law of health: one check more, and one less. Conditions: none.
-/
import Derived.Test.YtemcklmfpapmpaaGreatRosLaw2
namespace Go.Sod
set_option linter.unusedVariables false
set_option linter.unusedSimpArgs false

theorem healthF_ge (svc : ByteArray) (w : Int) (c : Chk) : w ≤ healthF svc w c := by unfold healthF; split <;> omega
theorem healthF_mono (svc : ByteArray) {v w : Int} (h : v ≤ w) (c : Chk) : healthF svc v c ≤ healthF svc w c := by unfold healthF; split <;> omega
theorem foldH_mono (svc : ByteArray) : ∀ (xs : List Chk) {v w : Int}, v ≤ w → xs.foldl (healthF svc) v ≤ xs.foldl (healthF svc) w
  | [], _, _, h => h
  | x :: xs, _, _, h => foldH_mono svc xs (healthF_mono svc h x)
theorem healthB_more (A B : List Chk) (c : Chk) (n : Int) (svc : ByteArray) : healthB (A ++ B) n svc ≤ healthB (A ++ c :: B) n svc := by
  unfold healthB
  rw [List.filter_append, List.filter_append, List.foldl_append, List.foldl_append, List.filter_cons]
  split
  · rw [List.foldl_cons]; exact foldH_mono svc _ (healthF_ge svc _ c)
  · exact Int.le_refl _
theorem chkR_wrong {R : Rst} {c : Chk} {ix : Int} (h : chkE R c ≠ 0) : chkR R c ix = R := by
  unfold chkE at h
  unfold chkR
  split
  · rename_i he
    rw [if_pos he] at h
    split
    · rfl
    · rename_i hf
      rw [if_neg hf] at h; exact absurd rfl h
  · rfl
theorem chkE_right {R : Rst} {c : Chk} (h : chkE R c = 0) : errC R.n R.s c = 0 ∧ putFull R.most R.c (keyS c.node c.id) = false := by
  unfold chkE at h
  split at h
  · rename_i he
    refine ⟨he, ?_⟩
    cases hf : putFull R.most R.c (keyS c.node c.id) with
    | false => rfl
    | true => rw [hf, if_pos rfl] at h; cases h
  · rename_i he; exact absurd h he
section
variable {R : Rst} {c : Chk} {ix ix' : Int} {svc : ByteArray}
/-- what is laid is there, and goes again -/
theorem chk_more (h : chkE R c = 0) : ∃ A r B, (chkR R c ix).c = A ++ r :: B ∧ r.key = keyS c.node c.id ∧ (chkIs R c.node c.id = false → R.c = A ++ B) := by
  obtain ⟨he, hf⟩ := chkE_right h
  have hn : rightN c.node = true := (errC_ok he).1
  have e1 : (chkR R c ix).c = putL R.c (keyS c.node c.id) c ix rowC0 := by unfold chkR; rw [if_pos he, hf]; rfl
  refine ⟨_, _, _, e1.trans putL_split, rfl, fun hi => ?_⟩
  have hi : atIs R.c (keyS c.node c.id) = false := by unfold chkIs at hi; rw [hn] at hi; simpa using hi
  rw [if_neg (ifn hi), List.take_append_drop]
theorem chk_less (w : RWf R) (h : chkE R c = 0) : dropChkE (chkR R c ix) c.node c.id = 0 ∧ ∃ A r B, (chkR R c ix).c = A ++ r :: B ∧ (dropChkR (chkR R c ix) c.node c.id ix').c = A ++ B ∧ (chkIs R c.node c.id = false → R.c = A ++ B) := by
  obtain ⟨A, r, B, e, hr, hA⟩ := chk_more (ix := ix) h
  have hn : rightN c.node = true := (errC_ok (chkE_right h).1).1
  have w1 := (chkR_wf (c := c) (ix := ix) w).sc
  rw [e] at w1
  obtain ⟨q1, q2⟩ := srt_mid w1
  have hi : chkIs (chkR R c ix) c.node c.id = true := by unfold chkIs; rw [hn, e, ← hr, q1]; rfl
  refine ⟨by rw [dropChkE, if_pos hi], A, r, B, e, ?_, hA⟩
  rw [dropChkR, if_pos hi]
  show dropL (chkR R c ix).c _ = _
  rw [e, ← hr, q2]
def hlt (R : Rst) (n : Int) (svc : ByteArray) : Int := healthB (R.c.map toldC) n svc
theorem hlt_wrong (h : chkE R c ≠ 0) : hlt (chkR R c ix) c.node svc = hlt R c.node svc := by rw [chkR_wrong h]
theorem hlt_more (h : chkE R c = 0) (hi : chkIs R c.node c.id = false) : hlt R c.node svc ≤ hlt (chkR R c ix) c.node svc := by
  obtain ⟨A, r, B, e, _, hA⟩ := chk_more (ix := ix) h
  unfold hlt
  rw [e, hA hi, List.map_append, List.map_append, List.map_cons]
  exact healthB_more _ _ _ _ _
theorem hlt_less (w : RWf R) (h : chkE R c = 0) : hlt (dropChkR (chkR R c ix) c.node c.id ix') c.node svc ≤ hlt (chkR R c ix) c.node svc := by
  obtain ⟨_, A, r, B, e, e2, _⟩ := chk_less (ix := ix) (ix' := ix') w h
  unfold hlt
  rw [e, e2, List.map_append, List.map_append, List.map_cons]
  exact healthB_more _ _ _ _ _
theorem hlt_back (w : RWf R) (h : chkE R c = 0) (hi : chkIs R c.node c.id = false) : hlt (dropChkR (chkR R c ix) c.node c.id ix') c.node svc = hlt R c.node svc := by
  obtain ⟨_, A, r, B, e, e2, hA⟩ := chk_less (ix := ix) (ix' := ix') w h
  unfold hlt
  rw [e2, hA hi]
end
end Go.Sod
