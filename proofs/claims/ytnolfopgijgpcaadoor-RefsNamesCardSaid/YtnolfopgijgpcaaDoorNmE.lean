/- The walk of refs.Check: it answers by the automaton, sign by sign. Condition: utf8's two tables hold what their text lays. -/
import Derived.Test.YtnolfopgijgpcaaDoorNmD
import Derived.Test.YtnolfopgijgpcaaDoorShelf
import Derived.Lib.OthersKept
import Derived.Lib.Hide
import Derived.Outline
namespace Go.Proofs.YtnolfopgijgpcaaDoor.Nm
set_option linter.unusedVariables false
open Go.Lib Go.RowKit Go.Proofs.YtnolfopgijgpcaaDoor.PRefsNames Go.Proofs.YtnolfopgijgpcaaDoorW.PrintWords Go.Proofs.YtnolfopgijgpcaaDoorW.PrintLast

abbrev spans : List Int := [97, 122, 65, 90, 48, 57, 95, 95, 128, 1114111]
abbrev spanCells : Array Value := #[.int .i32 97, .int .i32 122, .int .i32 65, .int .i32 90, .int .i32 48, .int .i32 57, .int .i32 95, .int .i32 95, .int .i32 128, .int .i32 1114111]

theorem between_eq (r : Nat) (hr : r ≤ 1114111) : refs_between.f 7 (r : Int) spans = some (alnum r) := by
  simp [refs_between.f, refs_between.l0, rd, wrap64, alnum]
  repeat' split
  all_goals (simp only [Option.some.injEq]; rw [Bool.eq_iff_iff]; simp; omega)

theorem between_at (r : Nat) (hr : r ≤ 1114111) (w : World) :
    Calls Tryd.prog 29 #[.int .i32 (r : Int), .slice (some ⟨w.heap.size, 0, none⟩) 10 10] (w.alloc (.cells spanCells 21)) fun e w' => e = .returned (.bool (alnum r)) ∧ Below w.heap.size w w' := by
  have hC : Kd.C (Kd.int .i32) (w.alloc (.cells spanCells 21)) (some ⟨w.heap.size, 0, none⟩) spans.length spans := by
    refine Kd.C_of_reads (enc := Value.int .i32) (d := (0 : Int)) (h1 := fun _ => rfl) ⟨rfl, by simp, fun _ => ⟨_, rfl, fun j hj => ?_⟩⟩
    rw [add_plain, World.cell?_alloc_new]
    match j, hj with
    | 0, _ => rfl
    | 1, _ => rfl
    | 2, _ => rfl
    | 3, _ => rfl
    | 4, _ => rfl
    | 5, _ => rfl
    | 6, _ => rfl
    | 7, _ => rfl
    | 8, _ => rfl
    | 9, _ => rfl
  refine (refs_between.calls 7 (r : Int) (some ⟨w.heap.size, 0, none⟩) 10 spans (alnum r) _ hC (by simp) (between_eq r hr)).mono fun e w' ⟨he, hd⟩ => ⟨he, ?_⟩
  obtain ⟨n, rfl⟩ := hd
  exact pw_below_drewN ((Below.refl _ _).alloc (Nat.le_refl _) _) n

def ans (b : Bool) : Int := if b = true then 0 else 140

set_option maxHeartbeats 1000000 in
set_option maxRecDepth 100000 in
theorem check_small (s : ByteArray) (w : World) (h : s.size < 1 ∨ 255 < s.size) (hs : s.size ≤ 9223372036854775807) :
    Calls Tryd.prog 8 #[.string s] w fun e w' => e = .returned (.int .i64 140) ∧ Below w.heap.size w w' := by
  rcases h with h | h
  · have hz : (s.size : Int) < 1 := by omega
    go_enter Tryd.func8, Tryd.ntmps8
    go_wp2
    go_ret
    exact ⟨rfl, Below.refl _ _⟩
  · have hz : ¬ (s.size : Int) < 1 := by omega
    have hz2 : 255 < (s.size : Int) := by omega
    go_enter Tryd.func8, Tryd.ntmps8
    go_wp2
    go_ret
    exact ⟨rfl, Below.refl _ _⟩

set_option maxHeartbeats 1000000 in
set_option maxRecDepth 100000 in
theorem check_bad (s : ByteArray) (w : World) (h1 : ¬ s.size < 1) (h2 : s.size ≤ 255) (hT : Hid (Lib.Utf8Tabs 0 1 w)) (hv : Hid (validD (bl s) = false ∨ bl s = [72, 69, 65, 68])) :
    Calls Tryd.prog 8 #[.string s] w fun e w' => e = .returned (.int .i64 140) ∧ Below w.heap.size w w' := by
  have cV : Calls Tryd.prog 28 #[.string s] w _ := Any.utf8_ValidString Tryd.laysValid s w (by omega) hT.out
  have HV := Lib.hid cV
  clear cV
  have hz : ¬ (s.size : Int) < 1 := by omega
  have hz2 : ¬ 255 < (s.size : Int) := by omega
  by_cases hvd : validD (bl s) = false
  · rw [show validD s.data.toList = false from hvd] at HV
    clear hvd
    go_enter Tryd.func8, Tryd.ntmps8
    go_wp2_with fail
    refine HV.out.mono ?_
    rintro e w1 ⟨rfl, hb⟩
    have HB := Lib.hid hb
    clear hb
    go_wp2_with fail
    go_ret
    exact ⟨rfl, HB.out⟩
  · have hvt : validD s.data.toList = true := by simpa using hvd
    rw [hvt] at HV
    have hh : bl s = [72, 69, 65, 68] := hv.out.resolve_left hvd
    obtain rfl : s = ⟨#[72, 69, 65, 68]⟩ := by
      rw [← mk_bl s, hh]; rfl
    clear hvd hvt hh
    go_enter Tryd.func8, Tryd.ntmps8
    go_wp2_with fail
    refine HV.out.mono ?_
    rintro e w1 ⟨rfl, hb⟩
    have HB := Lib.hid hb
    clear hb
    go_wp2_with fail
    go_ret
    exact ⟨rfl, HB.out⟩
end Go.Proofs.YtnolfopgijgpcaaDoor.Nm
