/- Bytes compared: Go's library's and the reference's comparison, plain; the walks of have and CmpID. -/
import Derived.Test.YtkjaffnplehhaaaRgC
import Derived.Test.YtkjaffnplehhaaaPRefsMergex4
import Derived.Lib.Bytealg
namespace Go.Proofs.Ytkjaffnplehhaaa.Rg
open Go Go.Lib Go.RowKit Go.ChangeMaps Go.Proofs.YtkjaffnplehhaaaW.PrintWords Go.Proofs.YtkjaffnplehhaaaW.PrintLast Go.Proofs.YtkjaffnplehhaaaW.PrintMore Go.Proofs.Ytkjaffnplehhaaa.PRefsMerge
set_option linter.unusedVariables false
set_option linter.unusedSimpArgs false
def ints (s : By) : List Int := s.map (fun b => (b.toNat : Int))
theorem ints_length (s : By) : (ints s).length = s.length := by simp [ints]
theorem u8lt (a b : UInt8) : a < b ↔ (a.toNat : Int) < (b.toNat : Int) := by rw [UInt8.lt_iff_toNat_lt]; omega
theorem cmpb_lt : ∀ (a b : By), compareBytes a b < 0 ↔ a < b
  | [], [] => by simp [compareBytes]
  | [], b :: bs => by simp [compareBytes]
  | a :: ar, [] => by simp [compareBytes]
  | a :: ar, b :: bs => by
    unfold compareBytes
    rw [List.cons_lt_cons_iff]
    by_cases h1 : a < b
    · simp [h1]
    · by_cases h2 : b < a
      · have : a ≠ b := by rintro rfl; exact h1 h2
        simp [h1, h2, this]
      · have : a = b := by
          rw [u8lt] at h1 h2
          exact UInt8.toNat.inj (by omega)
        subst this
        simp [h1, cmpb_lt ar bs]
theorem cmpb_gt : ∀ (a b : By), 0 < compareBytes a b ↔ b < a
  | [], [] => by simp [compareBytes]
  | [], b :: bs => by simp [compareBytes]
  | a :: ar, [] => by simp [compareBytes]
  | a :: ar, b :: bs => by
    unfold compareBytes
    rw [List.cons_lt_cons_iff]
    by_cases h1 : a < b
    · have h2 : ¬ b < a := by rw [u8lt] at h1 ⊢; omega
      have : b ≠ a := by rintro rfl; exact h2 h1
      simp [h1, h2, this]
    · by_cases h2 : b < a
      · simp [h1, h2]
      · have : a = b := by
          rw [u8lt] at h1 h2
          exact UInt8.toNat.inj (by omega)
        subst this
        simp [h1, cmpb_gt ar bs]
theorem w64 {i : Nat} (h : i ≤ 1000000000000) : wrap64 ((i : Int) + 1) = ((i + 1 : Nat) : Int) := by unfold wrap64; omega
theorem rd_at (p : By) (x : UInt8) (a : By) : YtkjaffnplehhaaaW.PrintWords.rd (ints (p ++ x :: a)) (p.length : Int) = (x.toNat : Int) := by
  unfold YtkjaffnplehhaaaW.PrintWords.rd ints
  rw [Int.toNat_natCast, List.getD_eq_getElem?_getD, List.map_append, List.getElem?_append_right (by simp)]
  simp
theorem cmp_from : ∀ (a b p : By) (k : Nat), 2 * a.length + 2 ≤ k → p.length + a.length ≤ 1000000000000 → satchelref0_Cmp.l0 k (ints (p ++ a)) (ints (p ++ b)) (p.length : Int) = some (compareBytes a b)
  | [], b, p, k, hk, hl => by
    obtain ⟨k, rfl⟩ : ∃ q, k = q + 2 := ⟨k - 2, by omega⟩
    simp only [satchelref0_Cmp.l0, satchelref0_Cmp.j1, ints_length, List.length_append, List.length_nil]
    rw [if_neg (by omega)]
    simp only [Bool.false_eq_true, if_false]
    cases b with
    | nil => rw [if_neg (by simp), if_neg (by simp)]; rfl
    | cons y b => rw [if_pos (by simp; omega)]; rfl
  | x :: a, [], p, k, hk, hl => by
    obtain ⟨k, rfl⟩ : ∃ q, k = q + 2 := ⟨k - 2, by omega⟩
    simp only [satchelref0_Cmp.l0, satchelref0_Cmp.j1, ints_length, List.length_append, List.length_nil, List.length_cons]
    rw [if_pos (by omega), if_neg (by simp), if_neg (by omega), if_pos (by omega)]; rfl
  | x :: a, y :: b, p, k, hk, hl => by
    obtain ⟨k, rfl⟩ : ∃ q, k = q + 2 := ⟨k - 2, by omega⟩
    have ih := cmp_from a b (p ++ [x]) k (by simp at hk; omega) (by simp at hl ⊢; omega)
    simp only [satchelref0_Cmp.l0, satchelref0_Cmp.j1, rd_at]
    have e1 : (p.length : Int) < ((ints (p ++ x :: a)).length : Int) := by rw [ints_length]; simp; omega
    have e2 : (p.length : Int) < ((ints (p ++ y :: b)).length : Int) := by rw [ints_length]; simp; omega
    have d2 : decide ((p.length : Int) < ((ints (p ++ y :: b)).length : Int)) = true := by simpa using e2
    rw [if_pos e1, d2, if_pos rfl, if_pos (by omega), if_pos e1, if_pos e2]
    unfold compareBytes
    by_cases h1 : x < y
    · rw [if_pos ((u8lt x y).1 h1), if_pos h1]
    · rw [if_neg (fun h => h1 ((u8lt x y).2 h)), if_neg h1]
      by_cases h2 : y < x
      · rw [if_pos (show (x.toNat : Int) > y.toNat from (u8lt y x).1 h2), if_pos h2]
      · rw [if_neg (fun h => h2 ((u8lt y x).2 h)), if_neg h2]
        have : x = y := by
          rw [u8lt] at h1 h2
          exact UInt8.toNat.inj (by omega)
        subst this
        rw [w64 (by simp at hl; omega)]
        simpa using ih
theorem cmp_law (a b : By) (ha : a.length ≤ 1000000000000) : satchelref0_Cmp.f (2 * a.length + 2) (ints a) (ints b) = some (compareBytes a b) := by
  have h := cmp_from a b [] (2 * a.length + 2) (Nat.le_refl _) (by simpa using ha)
  rw [List.nil_append, List.nil_append] at h
  exact h
/-- A stamp boxed. -/
theorem StAt.new {x : Stp} (hx : x.Ok) (w : World) (ty : TypeId) : StAt (w.alloc (.cells (encSt x).toArray ty)) ⟨w.heap.size, 0, none⟩ x := by
  refine ⟨hx, fun j v hj => ?_⟩
  rw [Addr.add_lit, Nat.zero_add]
  have : (w.alloc (.cells (encSt x).toArray ty)).heap[w.heap.size]? = some (.cells (encSt x).toArray ty (0, 0)) := (MapKept.heap_alloc w _).1
  rw [cell_of_row _ _ _ _ _ _ this]
  simpa using hj
set_option maxRecDepth 100000 in
set_option maxHeartbeats 4000000 in
theorem have_walk (l : List Stp) (A : Option Addr) (c : Nat) (x : Stp) (hx : x.Ok) (w : World) (hA : Kd.C kSt w A l.length l) :
    Calls Try.prog 7 #[.slice A l.length c, vSt x] w fun e w' => e = .returned (.bool (decide (x ∈ l))) ∧ Below w.heap.size w w' := by
  have HA := Lib.hid hA
  have hml := Kd.C_max hA
  obtain ⟨N, hN⟩ : ∃ N, l.length = N := ⟨_, rfl⟩
  have HN := Lib.hid hN
  rw [hN] at hml ⊢
  clear hA hN
  go_enter Try.func7, Try.ntmps7
  go_wp2_with fail
  obtain ⟨w1, hw1⟩ : ∃ w1, w.alloc (Obj.cells (encSt x).toArray 32) = w1 := ⟨_, rfl⟩
  have HX := Lib.hid (show StAt w1 ⟨w.heap.size, 0, none⟩ x from hw1 ▸ StAt.new hx w 32)
  have HB1 := Lib.hid (show Below w.heap.size w w1 from hw1 ▸ below_alloc (Below.refl _ _) _)
  rw [hw1]
  clear hw1
  go_loopw [5] (fun v5 wr => ∃ (i : Nat), i ≤ N ∧ v5 = .int .i64 i ∧ Below w1.heap.size w1 wr ∧ x ∉ l.take i) (fun v5 _ => N - (RowKit.intOf v5).toNat)
  case atStart => exact ⟨0, Nat.zero_le _, rfl, Below.refl _ _, by simp⟩
  case round =>
    obtain ⟨i, hi, rfl, hb, hin⟩ := hrel
    have HIN := Lib.hid hin
    have HBB := Lib.hid hb
    clear hin hb
    by_cases hlt : i < N
    · have h1 : i < l.length := by rw [HN.out]; exact hlt
      obtain ⟨a, rfl, hs⟩ := C_st HA.out i h1
      have HT := Lib.hid (show x ∈ l.take (i + 1) ↔ x = l[i] by
        rw [List.take_succ_eq_append_getElem h1, List.mem_append, List.mem_singleton]
        exact ⟨fun h => h.resolve_left HIN.out, .inr⟩)
      have HNE := Lib.hid (show x = l[i] → x ∈ l from fun h => by rw [h]; exact List.getElem_mem h1)
      obtain ⟨y, hy⟩ : ∃ y, l[i] = y := ⟨_, rfl⟩
      rw [hy] at hs HT HNE
      have qi0 : (0 : Int) ≤ (i : Int) := by omega
      have qi1 : (i : Int) < (N : Int) := by omega
      have HBW := Lib.hid (HB1.out.trans (HBB.out.mono HB1.out.size))
      have HL1 := Lib.hid (fun w' (h : Below wr.heap.size wr w') => ((hs.below HBW.out).below h).load)
      have HL2 := Lib.hid (fun w' (h : Below wr.heap.size wr w') => ((HX.out.below HBB.out).below h).load)
      have hn := eql_st hs.1 hx
      have hg := fun op a b => guard_st op a b y x
      clear hs hy h1
      go_upto_region 4 with (fail)
      refine wp_region_cls (by kernel_rfl) (by kernel_rfl) ?_
      repeat (first | go_big_quiet_skip | (go_big_quiet_want; refine quiet_ld 32 (.tmp 14) rfl (a.add (i * 34)) rfl (vSt y) HL1.out ?_; (try simp only [Act.put, List.setIfInBounds_toArray, List.set_cons_zero, List.set_cons_succ]); go_big_quiet_on) | (go_big_quiet_want; refine quiet_ld 32 (.tmp 3) rfl ⟨w.heap.size, 0, none⟩ rfl (vSt x) HL2.out ?_; (try simp only [Act.put, List.setIfInBounds_toArray, List.set_cons_zero, List.set_cons_succ]); go_big_quiet_on) | go_big_quiet_step (fail))
      refine wpQuiet_nil ?_
      rintro wy ⟨q, rfl⟩
      have HQ := Lib.hid (HBB.out.trans (q.below.mono HBB.out.size))
      clear hn hg
      by_cases hxy : y = x
      · have hd : decide (y = x) = true := by simpa using hxy
        rw [hd]
        clear hd
        go_wp2_with fail
        go_ret
        have hq := HQ.out
        refine ⟨?_, HB1.out.trans (hq.mono HB1.out.size)⟩
        have := HNE.out hxy.symm
        simp [this]
      · have hd : decide (y = x) = false := by simpa using hxy
        rw [hd]
        clear hd
        go_wp2_with fail
        go_roundw
        case rel => exact ⟨i + 1, by omega, by go_num, HQ.out, fun h => hxy (HT.out.1 h).symm⟩
        all_goals (simp only [RowKit.intOf]; omega)
    · have he : i = N := by omega
      subst he
      have HLM := Lib.hid (show x ∉ l by
        have h := HIN.out
        rw [← HN.out, List.take_length] at h
        exact h)
      go_wp2_with fail
      go_ret
      refine ⟨?_, HB1.out.trans (HBB.out.mono HB1.out.size)⟩
      have := HLM.out
      simp [this]
end Go.Proofs.Ytkjaffnplehhaaa.Rg
