/- The walk of refs.Check's loop. -/
import Derived.Test.YtnolfopgijgpcaaDoorNmE
namespace Go.Proofs.YtnolfopgijgpcaaDoor.Nm
set_option linter.unusedVariables false
open Go.Lib Go.RowKit

theorem iterPos_of {w : World} {k : Nat} {s : ByteArray} {p : Nat} (h : w.heap[k]? = some (.stringIter s p)) : w.iterPos k = p := by simp [World.iterPos, h]
/-- One step of the run, at place pos. -/
theorem rrun_at (s : ByteArray) (pos last r n : Nat) (hp : pos < s.size) (hd : Utf8.decode s pos = (r, n)) : rrun ((bl s).drop pos) last = (step last r && rrun ((bl s).drop (pos + n)) r) := by
  have hne : (bl s).drop pos ≠ [] := by rw [bl_drop s pos hp]; simp
  rw [rrun_step _ _ hne, decodeL_drop, hd, List.drop_drop]

set_option maxHeartbeats 1000000 in
set_option maxRecDepth 100000 in
theorem check_loop (s : ByteArray) (w : World) (h1 : ¬ s.size < 1) (h2 : s.size ≤ 255) (hT : Hid (Lib.Utf8Tabs 0 1 w)) (hv : Hid (validD (bl s) = true)) (hh : Hid (bl s ≠ [72, 69, 65, 68])) :
    Calls Tryd.prog 8 #[.string s] w fun e w' => e = .returned (.int .i64 (ans (rrun (bl s) 47))) ∧ Below w.heap.size w w' := by
  have cV : Calls Tryd.prog 28 #[.string s] w _ := Any.utf8_ValidString Tryd.laysValid s w (by omega) hT.out
  rw [show validD s.data.toList = true from hv.out] at cV
  have HV := Lib.hid cV
  clear cV
  have hz : ¬ (s.size : Int) < 1 := by omega
  have hz2 : ¬ 255 < (s.size : Int) := by omega
  have hne : (s.toList == [72, 69, 65, 68]) = false := by rw [toList_bl]; simpa using hh.out
  go_enter Tryd.func8, Tryd.ntmps8
  go_wp2_with fail
  refine HV.out.mono ?_
  rintro e w1 ⟨rfl, hb⟩
  have HB := Lib.hid hb
  clear hb
  go_wp2_with fail
  go_loopw [3] (fun v wr => ∃ (pos last : Nat), v = .int .i32 last ∧ last ≤ 1114111 ∧ wr.heap[w1.heap.size]? = some (.stringIter s pos) ∧ Below w1.heap.size w1 wr ∧ rrun (bl s) 47 = rrun ((bl s).drop pos) last) (fun _ wr => s.size - wr.iterPos w1.heap.size)
  case atStart => exact ⟨0, 47, rfl, by omega, World.iter_heap w1 s 0, (Below.refl _ _).alloc (Nat.le_refl _) _, rfl⟩
  case round =>
    obtain ⟨pos, last, rfl, hl, hit, hbw, hrr⟩ := hrel
    have hsz : w1.heap.size < wr.heap.size := (Array.getElem?_eq_some_iff.1 hit).1
    by_cases hp : pos < s.size
    · have hnx := fun ty => Lib.run_next_any_at (P := Tryd.prog) wr w1.heap.size s pos ty hit hp
      obtain ⟨r, n, hD⟩ : ∃ r n, Utf8.decode s pos = (r, n) := ⟨_, _, rfl⟩
      have hit2 := Lib.iterAt_heap wr w1.heap.size s pos (pos + n) hit
      have hbw2 := Lib.below_iterAt hbw (k := w1.heap.size) (by omega) s (pos + n)
      have hsz2 : w1.heap.size < (wr.iterAt w1.heap.size s (pos + n)).heap.size := by rw [Lib.iterAt_size]; omega
      have hr1 : r ≤ 1114111 := by have := decodeL_rune ((bl s).drop pos); rw [decodeL_drop, hD] at this; exact this
      have hn1 : 1 ≤ n := by have := decodeL_width ((bl s).drop pos); rw [decodeL_drop, hD] at this; exact this
      have hst := rrun_at s pos last r n hp hD
      rw [hst] at hrr
      rw [hD] at hnx
      have HRR := Lib.hid hrr
      have HIT := Lib.hid hit
      have HIT2 := Lib.hid hit2
      have HBW2 := Lib.hid hbw2
      have HBW := Lib.hid hbw
      clear hrr hit hit2 hbw2 hst hD hbw
      by_cases c47 : r = 47
      · subst c47
        by_cases l47 : last = 47
        · subst l47
          go_wp2
          go_ret
          exact ⟨by rw [HRR.out]; rfl, HB.out.trans (HBW2.out.mono HB.out.size)⟩
        · have n47 : ((last : Int) == 47) = false := by simp; omega
          by_cases l46 : last = 46
          · subst l46
            go_wp2
            go_ret
            exact ⟨by rw [HRR.out]; rfl, HB.out.trans (HBW2.out.mono HB.out.size)⟩
          · have n46 : ((last : Int) == 46) = false := by simp; omega
            go_wp2
            go_roundw
            case rel => exact ⟨pos + n, 47, rfl, by omega, HIT2.out, HBW2.out, by rw [HRR.out, show step last 47 = true by simp [step, fin, l47, l46], Bool.true_and]⟩
            case measure => rw [iterPos_of HIT.out, iterPos_of HIT2.out]; omega
      · have r47 : ((r : Int) == 47) = false := by simp; omega
        by_cases c46 : r = 46
        · subst c46
          by_cases l47 : last = 47
          · subst l47
            go_wp2
            go_ret
            exact ⟨by rw [HRR.out]; rfl, HB.out.trans (HBW2.out.mono HB.out.size)⟩
          · have n47 : ((last : Int) == 47) = false := by simp; omega
            by_cases l46 : last = 46
            · subst l46
              go_wp2
              go_ret
              exact ⟨by rw [HRR.out]; rfl, HB.out.trans (HBW2.out.mono HB.out.size)⟩
            · have n46 : ((last : Int) == 46) = false := by simp; omega
              go_wp2
              go_roundw
              case rel => exact ⟨pos + n, 46, rfl, by omega, HIT2.out, HBW2.out, by rw [HRR.out, show step last 46 = true by simp [step, fin, l47, l46], Bool.true_and]⟩
              case measure => rw [iterPos_of HIT.out, iterPos_of HIT2.out]; omega
        · have r46 : ((r : Int) == 46) = false := by simp; omega
          by_cases c45 : r = 45
          · subst c45
            by_cases l47 : last = 47
            · subst l47
              go_wp2
              go_ret
              exact ⟨by rw [HRR.out]; rfl, HB.out.trans (HBW2.out.mono HB.out.size)⟩
            · have n47 : ((last : Int) == 47) = false := by simp; omega
              go_wp2
              go_roundw
              case rel => exact ⟨pos + n, 45, rfl, by omega, HIT2.out, HBW2.out, by rw [HRR.out, show step last 45 = true by simp [step, l47], Bool.true_and]⟩
              case measure => rw [iterPos_of HIT.out, iterPos_of HIT2.out]; omega
          · have r45 : ((r : Int) == 45) = false := by simp; omega
            have hstep : step last r = alnum r := by unfold step; rw [if_neg c47, if_neg c46, if_neg c45]
            have HST := Lib.hid hstep
            clear hstep
            have HIB := Lib.hid (between_at r hr1 (wr.iterAt w1.heap.size s (pos + n)))
            cases hal : alnum r
            · have HAL := Lib.hid hal
              rw [hal] at HIB
              clear hal
              go_wp2_with fail
              refine HIB.out.mono ?_
              rintro e w2 ⟨rfl, hb2⟩
              have HB2 := Lib.hid hb2
              clear hb2
              go_wp2
              go_ret
              exact ⟨by rw [HRR.out, HST.out, HAL.out]; rfl, HB.out.trans ((HBW2.out.trans (HB2.out.mono (by omega))).mono HB.out.size)⟩
            · have HAL := Lib.hid hal
              rw [hal] at HIB
              clear hal
              go_wp2_with fail
              refine HIB.out.mono ?_
              rintro e w2 ⟨rfl, hb2⟩
              have HB2 := Lib.hid hb2
              have HIT3 := Lib.hid ((hb2.block _ hsz2).trans HIT2.out)
              clear hb2
              go_wp2
              go_roundw
              case rel => exact ⟨pos + n, r, rfl, by omega, HIT3.out, HBW2.out.trans (HB2.out.mono (by omega)), by rw [HRR.out, HST.out, HAL.out, Bool.true_and]⟩
              case measure => rw [iterPos_of HIT.out, iterPos_of HIT3.out]; omega
    · have hnx : ∀ ty, (Instr.next (.pointer (some ⟨w1.heap.size, 0, none⟩)) true ty).run Tryd.prog wr = _ := fun ty => Lib.run_next_end_at wr w1.heap.size s pos ty hit hp
      have hnil : (bl s).drop pos = [] := by rw [List.drop_eq_nil_iff, bl_length]; omega
      rw [hnil, rrun_nil] at hrr
      have HRR := Lib.hid hrr
      have HBW := Lib.hid hbw
      clear hrr hnil hit hbw
      by_cases l47 : last = 47
      · subst l47
        go_wp2
        go_ret
        exact ⟨by rw [HRR.out]; rfl, HB.out.trans (HBW.out.mono HB.out.size)⟩
      · have n47 : ((last : Int) == 47) = false := by simp; omega
        by_cases l46 : last = 46
        · subst l46
          go_wp2
          go_ret
          exact ⟨by rw [HRR.out]; rfl, HB.out.trans (HBW.out.mono HB.out.size)⟩
        · have n46 : ((last : Int) == 46) = false := by simp; omega
          go_wp2
          go_ret
          exact ⟨by rw [HRR.out]; simp [fin, l47, l46, ans], HB.out.trans (HBW.out.mono HB.out.size)⟩

/-- refs.Check: 0 for a good name, 140 for any other text. -/
theorem check_walk (s : ByteArray) (w : World) (hs : s.size ≤ 9223372036854775807) (hT : Lib.Utf8Tabs 0 1 w) :
    Calls Tryd.prog 8 #[.string s] w fun e w' => e = .returned (.int .i64 (ans (goodB (bl s)))) ∧ Below w.heap.size w w' := by
  by_cases h : s.size < 1 ∨ 255 < s.size
  · have : goodB (bl s) = false := by
      unfold goodB
      rw [bl_length]
      rcases h with h | h
      · rw [decide_eq_false (by omega)]; rfl
      · rw [decide_eq_false (show ¬ s.size ≤ 255 by omega), Bool.and_false]; rfl
    rw [this]
    exact check_small s w h hs
  · have g1 : decide (1 ≤ (bl s).length) = true := by rw [bl_length]; simp; omega
    have g2 : decide ((bl s).length ≤ 255) = true := by rw [bl_length]; simp; omega
    by_cases hv : validD (bl s) = false ∨ bl s = [72, 69, 65, 68]
    · have : goodB (bl s) = false := by
        unfold goodB
        rcases hv with hv | hv
        · rw [hv]; simp
        · rw [hv]; rfl
      rw [this]
      exact check_bad s w (by omega) (by omega) (Lib.hid hT) (Lib.hid hv)
    · have hv1 : validD (bl s) = true := by
        cases e : validD (bl s)
        · exact absurd (.inl e) hv
        · rfl
      have hv2 : bl s ≠ [72, 69, 65, 68] := fun e => hv (.inr e)
      have : goodB (bl s) = rrun (bl s) 47 := by
        unfold goodB
        rw [g1, g2, hv1, rrun_eq _ (bl s) 47 47 (Nat.le_refl _) hv1 ⟨Iff.rfl, Iff.rfl⟩]
        simp [hv2]
      rw [this]
      exact check_loop s w (by omega) (by omega) (Lib.hid hT) (Lib.hid hv1) (Lib.hid hv2)

/-- The reference's Check: the same. -/
theorem refCheck_walk (s : ByteArray) (w : World) :
    Calls Tryd.prog 10 #[.string s] w fun e w' => e = .returned (.int .i64 (ans (goodB (bl s)))) ∧ Below w.heap.size w w' :=
  PRefsNames.satchelref14_Check.calls 1000 s _ w (check_eq s 1000 (Nat.le_refl _))
end Go.Proofs.YtnolfopgijgpcaaDoor.Nm
