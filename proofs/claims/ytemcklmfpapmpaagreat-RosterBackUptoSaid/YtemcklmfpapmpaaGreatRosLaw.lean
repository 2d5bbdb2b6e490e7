/-
  The roster is the document's roster: the plain law of Node, Service and Check. Conditions: none.
-/
import Derived.Test.YtemcklmfpapmpaaGreatF3
namespace Go.Sod
set_option linter.unusedVariables false
set_option linter.unusedSimpArgs false

theorem strLt_gt (a b : ByteArray) : (!(strLt a b || decide (a = b))) = strLt b a := by
  by_cases e : a = b
  · subst e; simp [strLt_irrefl]
  · cases h : strLt a b with
    | true => simp [strLt_asymm h]
    | false => simp [e, strLt_total h e]
theorem dig_toNat {n : Int} (h : rightN n = true) : (UInt8.ofNat (48 + n).toNat).toNat = (48 + n).toNat := by
  have := rightN_iff.1 h
  rw [UInt8.toNat_ofNat']; omega
theorem digitS_list (n : Int) : (digitS n).toList = [UInt8.ofNat (48 + n).toNat] := by rw [digitS, ByteArray.toList_eq]
theorem keyS_list (n : Int) (id : ByteArray) : (keyS n id).toList = UInt8.ofNat (48 + n).toNat :: 32 :: id.toList := by
  rw [keyS, ByteArray.toList_eq, ByteArray.toList_eq]
  simp [digitS, ByteArray.data_append]
theorem dig_lt {n m : Int} (hn : rightN n = true) (hm : rightN m = true) : (UInt8.ofNat (48 + n).toNat < UInt8.ofNat (48 + m).toNat) ↔ n < m := by
  rw [UInt8.lt_iff_toNat_lt, dig_toNat hn, dig_toNat hm]
  have := rightN_iff.1 hn
  have := rightN_iff.1 hm
  omega
theorem dig_eq {n m : Int} (hn : rightN n = true) (hm : rightN m = true) : (UInt8.ofNat (48 + n).toNat = UInt8.ofNat (48 + m).toNat) ↔ n = m := by
  rw [← UInt8.toNat_inj, dig_toNat hn, dig_toNat hm]
  have := rightN_iff.1 hn
  have := rightN_iff.1 hm
  omega
theorem digitS_inj {n m : Int} (hn : rightN n = true) (hm : rightN m = true) : digitS n = digitS m ↔ n = m := by
  rw [← dig_eq hn hm]
  constructor
  · intro h
    have := congrArg ByteArray.toList h
    rw [digitS_list, digitS_list] at this
    simpa using this
  · intro h; exact toList_inj (by rw [digitS_list, digitS_list, h])
theorem digitS_lt {n m : Int} (hn : rightN n = true) (hm : rightN m = true) : strLt (digitS n) (digitS m) = decide (n < m) := by
  unfold strLt
  rw [digitS_list, digitS_list]
  simp only [Op.bytesLess, Bool.and_false, Bool.or_false]
  exact decide_eq_decide.2 (dig_lt hn hm)
theorem keyS_inj {n m : Int} {a b : ByteArray} (hn : rightN n = true) (hm : rightN m = true) : keyS n a = keyS m b ↔ n = m ∧ a = b := by
  constructor
  · intro h
    have := congrArg ByteArray.toList h
    rw [keyS_list, keyS_list] at this
    simp only [List.cons.injEq, true_and] at this
    exact ⟨(dig_eq hn hm).1 this.1, toList_inj this.2⟩
  · rintro ⟨rfl, rfl⟩; rfl
theorem keyS_lt {n m : Int} {a b : ByteArray} (hn : rightN n = true) (hm : rightN m = true) : strLt (keyS n a) (keyS m b) = (decide (n < m) || (decide (n = m) && strLt a b)) := by
  unfold strLt
  rw [keyS_list, keyS_list]
  simp only [Op.bytesLess]
  have h1 : decide (UInt8.ofNat (48 + n).toNat < UInt8.ofNat (48 + m).toNat) = decide (n < m) := decide_eq_decide.2 (dig_lt hn hm)
  have h2 : (UInt8.ofNat (48 + n).toNat == UInt8.ofNat (48 + m).toNat) = decide (n = m) := by
    rw [show (UInt8.ofNat (48 + n).toNat == UInt8.ofNat (48 + m).toNat) = decide (UInt8.ofNat (48 + n).toNat = UInt8.ofNat (48 + m).toNat) from rfl]
    exact decide_eq_decide.2 (dig_eq hn hm)
  rw [h1, h2]
  simp

/-- keys are as they are to be -/
structure RKey (R : Rst) : Prop where
  kn : ∀ r, r ∈ R.n → rightN r.val.node = true ∧ r.key = digitS r.val.node
  ks : ∀ r, r ∈ R.s → rightN r.val.node = true ∧ r.key = keyS r.val.node r.val.id
  kc : ∀ r, r ∈ R.c → rightN r.val.node = true ∧ r.key = keyS r.val.node r.val.id
def tellR (R : Rst) : Rrf := ⟨R.most, R.n.map toldN, R.s.map toldS, R.c.map toldC, R.l0, R.l1, R.l2⟩
theorem RWf.rf {R : Rst} (w : RWf R) : RfWf (tellR R) := ⟨by simpa [tellR] using w.ln, by simpa [tellR] using w.ls, by simpa [tellR] using w.lc⟩
section
variable {R : Rst} (k : RKey R) (w : RWf R)
include k w
omit w in
theorem sameN_at {n : Int} (hn : rightN n = true) : ∀ r, r ∈ R.n → sameN n (toldN r) = decide (r.key = digitS n) := fun r hr => by
  obtain ⟨a, b⟩ := k.kn r hr
  rw [b]; exact decide_eq_decide.2 (digitS_inj a hn).symm
omit w in
theorem gtN_at {n : Int} (hn : rightN n = true) : ∀ r, r ∈ R.n → gtN n (toldN r) = strLt (digitS n) r.key := fun r hr => by
  obtain ⟨a, b⟩ := k.kn r hr
  rw [b, digitS_lt hn a]; rfl
omit w in
theorem sameS_at {n : Int} {id : ByteArray} (hn : rightN n = true) : ∀ r, r ∈ R.s → sameS n id (toldS r) = decide (r.key = keyS n id) := fun r hr => by
  obtain ⟨a, b⟩ := k.ks r hr
  rw [b, decide_eq_decide.2 (keyS_inj a hn), Bool.decide_and]; rfl
omit w in
theorem gtS_at {n : Int} {id : ByteArray} (hn : rightN n = true) : ∀ r, r ∈ R.s → gtS n id (toldS r) = strLt (keyS n id) r.key := fun r hr => by
  obtain ⟨a, b⟩ := k.ks r hr
  rw [b, keyS_lt hn a]
  show (decide (n < r.val.node) || (decide (r.val.node = n) && !(strLt r.val.id id || decide (r.val.id = id)))) = _
  rw [strLt_gt, decide_eq_decide.2 (eq_comm (a := r.val.node) (b := n))]
omit w in
theorem sameC_at {n : Int} {id : ByteArray} (hn : rightN n = true) : ∀ r, r ∈ R.c → sameC n id (toldC r) = decide (r.key = keyS n id) := fun r hr => by
  obtain ⟨a, b⟩ := k.kc r hr
  rw [b, decide_eq_decide.2 (keyS_inj a hn), Bool.decide_and]; rfl
omit w in
theorem gtC_at {n : Int} {id : ByteArray} (hn : rightN n = true) : ∀ r, r ∈ R.c → gtC n id (toldC r) = strLt (keyS n id) r.key := fun r hr => by
  obtain ⟨a, b⟩ := k.kc r hr
  rw [b, keyS_lt hn a]
  show (decide (n < r.val.node) || (decide (r.val.node = n) && !(strLt r.val.id id || decide (r.val.id = id)))) = _
  rw [strLt_gt, decide_eq_decide.2 (eq_comm (a := r.val.node) (b := n))]
theorem rfThere_tell {n : Int} : rightN n = true → rfThere (tellR R) n = atIs R.n (digitS n) := fun hn => any_at w.sn (sameN_at k hn)
theorem thereB_tell {n : Int} (hn : rightN n = true) : thereB R.n n = rfThere (tellR R) n := by
  rw [rfThere_tell k w hn, thereB, hn, Bool.true_and]
theorem rfHas_tell {n : Int} {id : ByteArray} (hn : rightN n = true) : rfHas (tellR R) n id = atIs R.s (keyS n id) := any_at w.ss (sameS_at k hn)
theorem rfIsC_tell {c : Chk} (hn : rightN c.node = true) : rfIsC (tellR R) c = atIs R.c (keyS c.node c.id) := any_at w.sc (sameC_at k hn)
omit k w in
theorem right_out {n : Int} : (decide (n < 0) || decide (7 < n)) = !rightN n := by
  have e : (decide (n < 0) || decide (7 < n)) = decide (¬ (0 ≤ n ∧ n < 8)) := by
    rw [Bool.eq_iff_iff]; simp; omega
  rw [e, rightN, ← Bool.decide_and, decide_not]
theorem nodeE_tell {n : Int} {addr : ByteArray} : rfNodeE (tellR R) n addr = nodeE R n addr := by
  unfold rfNodeE nodeE
  rw [right_out]
  cases hn : rightN n with
  | false => rfl
  | true =>
    rw [rfThere_tell k w hn]
    simp only [putFull, tellR, List.length_map]
    rfl
theorem nodeR_tell {n ix : Int} {addr : ByteArray} : rfNodeW (tellR R) n addr ix = tellR (nodeR R n addr ix) := by
  unfold rfNodeW nodeR
  rw [right_out]
  cases hn : rightN n with
  | false => rfl
  | true =>
    rw [rfThere_tell k w hn]
    simp only [Bool.not_true, Bool.false_eq_true, if_false]
    split
    · rfl
    · have hf : (!atIs R.n (digitS n) && decide ((tellR R).most ≤ ((tellR R).nodes.length : Int))) = putFull R.most R.n (digitS n) := by simp only [putFull, tellR, List.length_map]
      rw [hf]
      cases hfull : putFull R.most R.n (digitS n) with
      | true => simp [tellR]
      | false =>
        have := ins_put (told := toldN) (v := (⟨n, addr, 0, 0⟩ : Nod)) (cur := ⟨n, addr, ix, ix⟩) (ix := ix) (r0 := rowN0) (same := sameN n) (gt := gtN n) (setM := setMN) w.sn (sameN_at k hn) (gtN_at k hn)
          (fun hi => by simp [toldN, putRow, hi]) (fun r hr hk hg => by
            have hi : atIs R.n (digitS n) = true := atIs_iff.2 ⟨(List.getElem?_eq_some_iff.1 hg).1, by unfold keyAt; rw [hg]; exact hk⟩
            simp [toldN, putRow, setMN, hi, hg])
        simp only [tellR, Bool.false_eq_true, if_false]
        rw [this]
theorem errS_tell {s : Svc} : rfErrS (tellR R) s = errS R.n s := by
  unfold rfErrS errS
  rw [right_out]
  cases hn : rightN s.node with
  | false => rfl
  | true => rw [thereB_tell k w hn]
theorem svcE_tell {s : Svc} : rfSvcE (tellR R) s = svcE R s := by
  unfold rfSvcE svcE
  rw [errS_tell k w]
  split
  · rename_i h
    rw [rfHas_tell k w (errS_ok h).1]
    simp only [putFull, tellR, List.length_map]
    rfl
  · rfl
theorem svcR_tell {s : Svc} {ix : Int} : rfSvcW (tellR R) s ix = tellR (svcR R s ix) := by
  unfold rfSvcW svcR
  rw [errS_tell k w]
  split
  · rename_i h
    have hn := (errS_ok h).1
    rw [rfHas_tell k w hn]
    have hf : (!atIs R.s (keyS s.node s.id) && decide ((tellR R).most ≤ ((tellR R).services.length : Int))) = putFull R.most R.s (keyS s.node s.id) := by simp only [putFull, tellR, List.length_map]
    rw [hf]
    cases hfull : putFull R.most R.s (keyS s.node s.id) with
    | true => simp [tellR]
    | false =>
      have := ins_put (told := toldS) (v := s) (cur := { s with made := ix, ix := ix }) (ix := ix) (r0 := rowS0) (same := sameS s.node s.id) (gt := gtS s.node s.id) (setM := setMS) w.ss (sameS_at k hn) (gtS_at k hn)
        (fun hi => by simp [toldS, putRow, hi]) (fun r hr hk hg => by
          have hi : atIs R.s (keyS s.node s.id) = true := atIs_iff.2 ⟨(List.getElem?_eq_some_iff.1 hg).1, by unfold keyAt; rw [hg]; exact hk⟩
          simp [toldS, putRow, setMS, hi, hg])
      simp only [tellR, Bool.false_eq_true, if_false]
      rw [this]
  · rfl
theorem errC_tell {c : Chk} : rfErrC (tellR R) c = errC R.n R.s c := by
  unfold rfErrC errC
  rw [right_out]
  cases hn : rightN c.node with
  | false => rfl
  | true =>
    rw [thereB_tell k w hn, rfHas_tell k w hn]
    cases rfThere (tellR R) c.node <;> simp
theorem chkE_tell {c : Chk} : rfChkE (tellR R) c = chkE R c := by
  unfold rfChkE chkE
  rw [errC_tell k w]
  split
  · rename_i h
    rw [rfIsC_tell k w (errC_ok h).1]
    simp only [putFull, tellR, List.length_map]
    rfl
  · rfl
theorem chkR_tell {c : Chk} {ix : Int} : rfChkW (tellR R) c ix = tellR (chkR R c ix) := by
  unfold rfChkW chkR
  rw [errC_tell k w]
  split
  · rename_i h
    have hn := (errC_ok h).1
    rw [rfIsC_tell k w hn]
    have hf : (!atIs R.c (keyS c.node c.id) && decide ((tellR R).most ≤ ((tellR R).checks.length : Int))) = putFull R.most R.c (keyS c.node c.id) := by simp only [putFull, tellR, List.length_map]
    rw [hf]
    cases hfull : putFull R.most R.c (keyS c.node c.id) with
    | true => simp [tellR]
    | false =>
      have := ins_put (told := toldC) (v := c) (cur := { c with made := ix, ix := ix }) (ix := ix) (r0 := rowC0) (same := sameC c.node c.id) (gt := gtC c.node c.id) (setM := setMC) w.sc (sameC_at k hn) (gtC_at k hn)
        (fun hi => by simp [toldC, putRow, hi]) (fun r hr hk hg => by
          have hi : atIs R.c (keyS c.node c.id) = true := atIs_iff.2 ⟨(List.getElem?_eq_some_iff.1 hg).1, by unfold keyAt; rw [hg]; exact hk⟩
          simp [toldC, putRow, setMC, hi, hg])
      simp only [tellR, Bool.false_eq_true, if_false]
      rw [this]
  · rfl
omit k in
theorem nodeR_wf {n ix : Int} {addr : ByteArray} : RWf (nodeR R n addr ix) := by
  unfold nodeR
  split
  · exact w
  split
  · exact w
  · cases hf : putFull R.most R.n (digitS n) with
    | true => simpa using w
    | false =>
      simp only [Bool.false_eq_true, if_false]
      exact ⟨w.m1, w.m2, putL_srt w.sn, w.ss, w.sc, putL_le hf w.m2 w.ln, w.ls, w.lc⟩
omit w in
theorem nodeR_key {n ix : Int} {addr : ByteArray} : RKey (nodeR R n addr ix) := by
  unfold nodeR
  split
  · exact k
  split
  · exact k
  · rename_i h1 _
    have hn : rightN n = true := by simpa using h1
    cases hf : putFull R.most R.n (digitS n) with
    | true => simpa using k
    | false =>
      simp only [Bool.false_eq_true, if_false]
      refine ⟨fun r hr => ?_, k.ks, k.kc⟩
      rcases putL_mem hr with hr | rfl
      · exact k.kn r hr
      · exact ⟨hn, rfl⟩
omit k in
theorem svcR_wf {s : Svc} {ix : Int} : RWf (svcR R s ix) := by
  unfold svcR
  split
  · cases hf : putFull R.most R.s (keyS s.node s.id) with
    | true => simpa using w
    | false =>
      simp only [Bool.false_eq_true, if_false]
      exact ⟨w.m1, w.m2, w.sn, putL_srt w.ss, w.sc, w.ln, putL_le hf w.m2 w.ls, w.lc⟩
  · exact w
omit w in
theorem svcR_key {s : Svc} {ix : Int} : RKey (svcR R s ix) := by
  unfold svcR
  split
  · rename_i h
    cases hf : putFull R.most R.s (keyS s.node s.id) with
    | true => simpa using k
    | false =>
      simp only [Bool.false_eq_true, if_false]
      refine ⟨k.kn, fun r hr => ?_, k.kc⟩
      rcases putL_mem hr with hr | rfl
      · exact k.ks r hr
      · exact ⟨(errS_ok h).1, rfl⟩
  · exact k
omit k in
theorem chkR_wf {c : Chk} {ix : Int} : RWf (chkR R c ix) := by
  unfold chkR
  split
  · cases hf : putFull R.most R.c (keyS c.node c.id) with
    | true => simpa using w
    | false =>
      simp only [Bool.false_eq_true, if_false]
      exact ⟨w.m1, w.m2, w.sn, w.ss, putL_srt w.sc, w.ln, w.ls, putL_le hf w.m2 w.lc⟩
  · exact w
omit w in
theorem chkR_key {c : Chk} {ix : Int} : RKey (chkR R c ix) := by
  unfold chkR
  split
  · rename_i h
    cases hf : putFull R.most R.c (keyS c.node c.id) with
    | true => simpa using k
    | false =>
      simp only [Bool.false_eq_true, if_false]
      refine ⟨k.kn, k.ks, fun r hr => ?_⟩
      rcases putL_mem hr with hr | rfl
      · exact k.kc r hr
      · exact ⟨(errC_ok h).1, rfl⟩
  · exact k
end
/-- nothing -/
def rst0 (most : Int) : Rst := ⟨most, [], [], [], 0, 0, 0⟩
theorem rst0_wf {most : Int} (h1 : 1 ≤ most) (h2 : most ≤ 64) : RWf (rst0 most) := ⟨h1, h2, fun _ _ _ h => by simp [rst0] at h, fun _ _ _ h => by simp [rst0] at h, fun _ _ _ h => by simp [rst0] at h, by simp [rst0], by simp [rst0], by simp [rst0]⟩
theorem rst0_key (most : Int) : RKey (rst0 most) := ⟨fun _ h => absurd h List.not_mem_nil, fun _ h => absurd h List.not_mem_nil, fun _ h => absurd h List.not_mem_nil⟩
theorem clampM_eq (n : Int) : clampM n = min (max n 1) 64 := by
  unfold clampM
  by_cases h1 : n < 1 <;> by_cases h2 : 64 < n <;> simp [h1, h2] <;> omega
end Go.Sod
