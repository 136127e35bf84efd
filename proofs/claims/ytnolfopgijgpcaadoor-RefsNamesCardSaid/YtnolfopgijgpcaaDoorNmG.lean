/- The walk of the law RefsNames. -/
import Derived.Test.YtnolfopgijgpcaaDoorNmF
namespace Go.Proofs.YtnolfopgijgpcaaDoor.Nm
set_option linter.unusedVariables false
open Go.Lib Go.RowKit Go.Proofs.YtnolfopgijgpcaaDoorW.PrintWords

theorem num_any (n : Int) (w : World) : Calls Tryd.prog 9 #[.int .i64 n] w fun e w' => e = .returned (.int .i64 n) ∧ w = w' := by
  go_enter Tryd.func9, Tryd.ntmps9
  go_wp2
  go_ret
  exact ⟨rfl, rfl⟩

theorem tabs_lt {w : World} (h : Lib.Utf8Tabs 0 1 w) : 1 < w.heap.size := by
  have h2 := (h.2 0 (by omega)).1
  exact World.block_lt_of_cell? w ⟨1, 0, none⟩ h2
theorem tabs_below {w w1 : World} (h : Lib.Utf8Tabs 0 1 w) (hb : Below w.heap.size w w1) : Lib.Utf8Tabs 0 1 w1 := by
  have hl := tabs_lt h
  refine ⟨fun c hc => ?_, fun i hi => ⟨?_, ?_⟩⟩
  · rw [hb.cell (p := ⟨0, c, none⟩) (by simp; omega)]; exact h.1 c hc
  · rw [hb.cell (p := ⟨1, 2 * i, none⟩) (by simp; omega)]; exact (h.2 i hi).1
  · rw [hb.cell (p := ⟨1, 2 * i + 1, none⟩) (by simp; omega)]; exact (h.2 i hi).2

theorem right_walk (w : World) (hT : Lib.Utf8Tabs 0 1 w) : Calls Tryd.prog 11 #[] w fun e w' => e = .returned (.bool true) ∧ Below w.heap.size w w' := by
  have c1 := check_walk ⟨#[104, 101, 97, 100, 115, 47, 97]⟩ w (by decide) hT
  have g1 : ans (goodB (bl ⟨#[104, 101, 97, 100, 115, 47, 97]⟩)) = 0 := by decide +kernel
  rw [g1] at c1
  have C1 := Lib.hid c1
  have g2 : ans (goodB (bl ⟨#[97, 47, 47, 98]⟩)) = 140 := by decide +kernel
  have G2 := Lib.hid g2
  have HT := Lib.hid hT
  clear c1 g1 g2 hT
  go_enter Tryd.func11, Tryd.ntmps11
  go_wp2_with fail
  refine C1.out.mono ?_
  rintro e w1 ⟨rfl, hb⟩
  have HB := Lib.hid hb
  clear hb
  go_wp2_with fail
  refine (num_any _ _).mono ?_
  rintro e w' ⟨rfl, rfl⟩
  go_wp2_with fail
  refine (check_walk ⟨#[97, 47, 47, 98]⟩ w1 (by decide) (tabs_below HT.out HB.out)).mono ?_
  rw [G2.out]
  rintro e w2 ⟨rfl, hb⟩
  have HB2 := Lib.hid hb
  clear hb
  go_wp2_with fail
  refine (num_any _ _).mono ?_
  rintro e w' ⟨rfl, rfl⟩
  go_wp2_with fail
  go_ret
  exact ⟨rfl, HB.out.trans (HB2.out.mono HB.out.size)⟩
end Go.Proofs.YtnolfopgijgpcaaDoor.Nm
