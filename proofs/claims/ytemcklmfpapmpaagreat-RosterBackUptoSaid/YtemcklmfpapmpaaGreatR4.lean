/-
  The roster's small functions, walked. Conditions: none.
-/
import Derived.Test.YtemcklmfpapmpaaGreatR3
import Derived.Test.YtemcklmfpapmpaaGreatN1
namespace Go.Sod
set_option linter.unusedVariables false
set_option linter.unusedSimpArgs false
set_option maxRecDepth 10000
set_option maxHeartbeats 4000000

def rightN (n : Int) : Bool := decide (0 ≤ n) && decide (n < 8)
theorem rightN_iff {n : Int} : rightN n = true ↔ 0 ≤ n ∧ n < 8 := by simp [rightN]
def digitS (n : Int) : ByteArray := ⟨#[UInt8.ofNat (48 + n).toNat]⟩
def keyS (n : Int) (id : ByteArray) : ByteArray := digitS n ++ ⟨#[32]⟩ ++ id
theorem digitS_byte {n : Int} (h : 0 ≤ n ∧ n < 8) : byteV [UInt8.ofNat (48 + n).toNat] = [.int .u8 (48 + n)] := by
  have e : (UInt8.ofNat (48 + n).toNat).toNat = (48 + n).toNat := by rw [UInt8.toNat_ofNat']; omega
  simp only [byteV, List.map_cons, List.map_nil, e]
  congr 2; omega
def thereB {α : Type} (xs : List (Row α)) (n : Int) : Bool := rightN n && atIs xs (digitS n)

theorem right_walk {h : Hp} {n : Int} : FV Go.Proofs.Tryz.prog 49 [.int .i64 n] h (.bool (rightN n)) := by
  refine FS.enter Go.Proofs.Tryz.func49 rfl rfl fun w0 => ?_
  refine .seq (.text (.as_ rfl rfl (.done (.thenN ?_))))
  refine .seq (.text (.mv rfl rfl (.cmp rfl rfl rfl rfl (.mv rfl rfl (.and (d := 8) (g := 5) _ _ (take_drop 3) rfl rfl (fun hb1_3 => .guard rfl rfl rfl rfl (.mv rfl rfl (.guard rfl rfl rfl rfl (.cmp rfl rfl rfl rfl (.pick rfl rfl rfl rfl ((.done (.thenN (.midB rfl))))))))) (.guardNo rfl rfl rfl rfl rfl rfl (.guardNo rfl rfl rfl rfl rfl rfl (.pick rfl rfl rfl rfl ((.done (.thenN (.midB rfl))))))) (.as_ rfl rfl (.done (.thenN ?_))))))))
  refine .ret ?_
  exact J.retV rfl (by simp [resOne, rightN])

theorem digit_walk {h : Hp} {n : Int} (h0 : rightN n = true) : FV Go.Proofs.Tryz.prog 52 [.int .i64 n] h (.string (digitS n)) := by
  have hb := rightN_iff.1 h0
  refine FS.enter Go.Proofs.Tryz.func52 rfl rfl fun w0 => ?_
  refine .seq (.text (.as_ rfl rfl (.done (.thenN ?_))))
  refine .seq (.text (.mv rfl rfl (.cvE (m := n) rfl (wrapu8_id (by omega) (by omega)) rfl (.ar (r := 48 + n) rfl rfl (by show some _ = _; rw [wrapu8_id (by omega) (by omega)]) rfl (.bs [_] rfl rfl rfl rfl (by decide) rfl rfl rfl fun b6 => ?_)))))
  refine .cvBS (l := [UInt8.ofNat (48 + n).toNat]) rfl ⟨_, _, _, rfl⟩ (by rw [digitS_byte hb]; exact srcBox) (by rintro _ _ _ e; cases e; rfl) rfl rfl (.as_ rfl rfl (.done (.thenN ?_)))
  refine .ret ?_
  exact J.retV rfl rfl

theorem key_walk {h : Hp} {n : Int} {id : ByteArray} (h0 : rightN n = true) (hid : id.size ≤ maxL) : FV Go.Proofs.Tryz.prog 48 [.int .i64 n, .string id] h (.string (keyS n id)) := by
  refine FS.enter Go.Proofs.Tryz.func48 rfl rfl fun w0 => ?_
  refine .seq (.text (.as_ rfl rfl (.done (.thenN ?_))))
  refine .seq (.text (.mv rfl rfl (?_)))
  refine .callV rfl rfl (digit_walk h0) rfl rfl (.cat rfl rfl (show 1 + 1 ≤ 9223372036854775807 by decide) rfl (.mv rfl rfl (.cat rfl rfl (by unfold maxL at hid; show 2 + id.size ≤ _; omega) rfl (.as_ rfl rfl (.done (.thenN ?_))))))
  refine .ret ?_
  exact J.retV rfl rfl

theorem rnone_walk {rp t0 t1 t2 : Nat} {h : Hp} {L : List Hp} [At h L rp (.cells ⟨[.pointer (some ⟨t0, 0, none⟩), .pointer (some ⟨t1, 0, none⟩), .pointer (some ⟨t2, 0, none⟩)]⟩ 66 (0, 0))] : FR Go.Proofs.Tryz.prog 39 [.pointer (some ⟨rp, 0, none⟩)] h L (.bool false) := by
  refine FS.enter Go.Proofs.Tryz.func39 rfl rfl fun w0 => ?_
  refine .seq (.text (.as_ rfl rfl (.done (.thenN ?_))))
  refine .seq (.text (.mv rfl rfl (.eqPtr (b := false) rfl rfl (.inl ⟨rfl, rfl⟩) rfl (.mv rfl rfl (.guard rfl rfl rfl rfl (.mv rfl rfl (.guard rfl rfl rfl rfl (.nilOk rfl rfl (.guard rfl rfl rfl rfl (.fa rfl rfl (.guard rfl rfl rfl rfl (.ld rfl rfl rfl rfl (.guard rfl rfl rfl rfl (.eqPtr (b := false) rfl rfl (.inl ⟨rfl, rfl⟩) rfl (.pick rfl rfl rfl rfl (.as_ rfl rfl (.done (.thenN ?_))))))))))))))))))
  refine .ret ?_
  exact J.retR rfl rfl (List.Sublist.refl _)

theorem there_walk {rp t0 t1 t2 : Nat} {rv : Value} {most last : Int} {h mr : Hp} {F : Hp → List Hp} {L : List Hp} {xs : List (Row Nod)} [At h L rp (.cells ⟨[.pointer (some ⟨t0, 0, none⟩), .pointer (some ⟨t1, 0, none⟩), .pointer (some ⟨t2, 0, none⟩)]⟩ 66 (0, 0))] [At h L t0 (.cells ⟨[.int .i64 most, rv, .int .u64 last]⟩ 111 (0, 0))] [HpIn L mr F] (hr : SlT mr h rv 7 119 (RRow RNod) xs) (hs : Srt xs) (hm : most ≠ 0) {n : Int} : FR Go.Proofs.Tryz.prog 65 [.pointer (some ⟨rp, 0, none⟩), .int .i64 n] h L (.bool (thereB xs n)) := by
  refine FS.enter Go.Proofs.Tryz.func65 rfl rfl fun w0 => ?_
  refine .seq (.text (.as_ rfl rfl (.done (.thenN ?_))))
  refine .seq (.seq (.text (.mv rfl rfl (?_))))
  refine .callV rfl rfl right_walk rfl rfl (.not rfl rfl (.done (.thenN ?_)))
  refine .cond rfl (fun hb1 => ?_) (fun hb1 => ?_)
  ·
    refine .seq (.text (.as_ rfl rfl (.done (.thenN ?_))))
    refine .ret (.thenR ?_)
    have h0 : rightN n = false := by simpa using hb1
    exact J.retR rfl (by simp only [resOne, thereB, h0, Bool.false_and]) (List.Sublist.refl _)
  ·
    have h0 : rightN n = true := by simpa using hb1
    refine .skip (.thenN ?_)
    refine J.cut (ι := Unit) (fun _ => True) (fun _ => [(6, .bool (atIs xs (digitS n)))]) (fun _ => h) (fun _ => L) ?_ ?_
    ·
      refine .tree2 (.seq [(0, .pure), (1, .pure), (2, .pure), (3, .read), (4, .pure)] (.both (.seq [(5, .grow)] (.both (.seq [(6, .grow), (7, .pure), (8, .pure), (9, .pure), (10, .grow), (11, .mut), (12, .pure)] .nil) (.seq [(10, .grow), (6, .grow), (7, .pure), (8, .pure), (9, .pure), (11, .mut), (12, .pure)] .nil))) (.seq [(10, .grow), (5, .grow), (6, .grow), (7, .pure), (8, .pure), (9, .pure), (11, .mut), (12, .pure)] .nil))) [8188, 8184, 8177, 6067, 8143, 0, 0, 7231, 5759, 3455, 0, 0, 3583] [0, 1, 2, 4, 0, 16, 40, 64, 128, 128, 0, 1535, 4095] [7118, 7116, 7112, 7104, 7136, 7104, 7040, 6912, 6144, 4096, 6144, 4096, 0] [.pure, .pure, .pure, .read, .pure, .grow, .grow, .pure, .pure, .pure, .grow, .mut, .pure] rfl (by kernel_rfl) (by kernel_rfl) ?_
      refine .tSeq (.mv rfl rfl (.nilOk rfl rfl (.fa rfl rfl (.ld rfl rfl rfl rfl (.mv rfl rfl (.done (.thenN ?_)))))))
      refine .tBoth ?_ ?_
      ·
        refine .tSeq (.callV rfl rfl (digit_walk h0) rfl rfl (.done (.thenN ?_)))
        refine .tBoth ?_ ?_
        ·
          refine .tSeq (.callRx rfl rfl (getNod hr hs hm) rfl rfl fun u17 hu17 => ?_)
          obtain ⟨vs17, rfl, hl17, ho17, _⟩ := hu17
          refine .mv rfl rfl (.ext rfl rfl rfl (.ext rfl rfl rfl (.alloc (cs := [_, _, _, _, _, _, _]) rfl rfl rfl fun b5 => .stW rfl rfl ho17 rfl (by rw [hl17]; rfl) rfl (.as_ rfl rfl (.done (.thenN ?_))))))
          refine .tNil (.thenN ?_)
          exact J.dropF 1 (J.mid () trivial (.cons rfl (.nil _)) rfl rfl)
        refine .tSeq (.alloc (cs := [_, _, _, _, _, _, _]) rfl rfl rfl fun b5 => ?_)
        refine .callRx rfl rfl (getNod hr hs hm) rfl rfl fun u17 hu17 => ?_
        obtain ⟨vs17, rfl, hl17, ho17, _⟩ := hu17
        refine .mv rfl rfl (.ext rfl rfl rfl (.ext rfl rfl rfl (.stW rfl rfl ho17 rfl (by rw [hl17]; rfl) rfl (.as_ rfl rfl (.done (.thenN ?_))))))
        refine .tNil (.thenN ?_)
        exact J.dropF 1 (J.mid () trivial (.cons rfl (.nil _)) rfl rfl)
      refine .tSeq (.alloc (cs := [_, _, _, _, _, _, _]) rfl rfl rfl fun b5 => ?_)
      refine .callV rfl rfl (digit_walk h0) rfl rfl (?_)
      refine .callRx rfl rfl (getNod hr hs hm) rfl rfl fun u17 hu17 => ?_
      obtain ⟨vs17, rfl, hl17, ho17, _⟩ := hu17
      refine .mv rfl rfl (.ext rfl rfl rfl (.ext rfl rfl rfl (.stW rfl rfl ho17 rfl (by rw [hl17]; rfl) rfl (.as_ rfl rfl (.done (.thenN ?_))))))
      refine .tNil (.thenN ?_)
      exact J.dropF 1 (J.mid () trivial (.cons rfl (.nil _)) rfl rfl)
    ·
      intro _ _
      refine .seq (.text (.mv rfl rfl (.as_ rfl rfl (.done (.thenN ?_)))))
      refine .ret ?_
      exact J.retR rfl (by simp only [resOne, thereB, h0, Bool.true_and]) (List.Sublist.refl _)
end Go.Sod
