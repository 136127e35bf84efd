/- Stamps in memory; the walk of the law's stamps. -/
import Derived.Test.YtkjaffnplehhaaaPRefsMergex0
import Derived.Test.YtkjaffnplehhaaaRgP
import Derived.Lib.Hide
namespace Go.Proofs.Ytkjaffnplehhaaa.Rg
open Go Go.Lib Go.RowKit Go.ChangeMaps Go.Proofs.YtkjaffnplehhaaaW.PrintWords Go.Proofs.YtkjaffnplehhaaaW.PrintLast Go.Proofs.YtkjaffnplehhaaaW.PrintMore
set_option linter.unusedVariables false
set_option linter.unusedSimpArgs false
def encSt (x : Stp) : List Value := .string ⟨x.n.toArray⟩ :: (x.id.map (fun b => Value.int .u8 (b.toNat : Int)) ++ [.int .u64 (x.seq : Int)])
structure Stp.Ok (x : Stp) : Prop where
  id : x.id.length = 32
  seq : x.seq < 18446744073709551616
theorem encSt_len {x : Stp} (h : x.Ok) : (encSt x).length = 34 := by simp [encSt, h.id]
theorem encSt_one (x : Stp) : ∀ u ∈ encSt x, u.oneCell' = true := by
  intro u hu
  unfold encSt at hu
  rcases List.mem_cons.1 hu with rfl | hu
  · rfl
  · rcases List.mem_append.1 hu with hu | hu
    · obtain ⟨b, _, rfl⟩ := List.mem_map.1 hu; rfl
    · rw [List.mem_singleton.1 hu]; rfl
/-- A stamp, by its 34 cells alone. -/
def kSt : Kd Stp where
  sz := 34
  E := []
  K := fun _ x cs => x.Ok ∧ cs = encSt x
  M := fun _ _ _ x cs => x.Ok ∧ cs = encSt x
  K_len := fun h => by rw [h.2]; exact encSt_len h.1
  K_one := fun h => by rw [h.2]; exact encSt_one _
  K_below := fun _ h => h
  K_of_M := fun h => h
  M_mono := fun _ h => h
  M_bound := fun h => h
  M_move := fun _ h => h
  M_lower := fun _ h => h
abbrev zeroId : By := List.replicate 32 0
abbrev markSt : Stp := ⟨[109, 97, 114, 107], zeroId, 77⟩
theorem markSt_ok : markSt.Ok := ⟨by decide, by decide⟩
theorem info32 : (Try.prog.info? 32).map (fun i => (i.zero, i.size, i.bytes)) = some (some (.agg (encSt ⟨[], zeroId, 0⟩).toArray), kSt.sz, 56) := by kernel_rfl
theorem cut_cap {P : Program} (t e : TypeId) (kh : IntKind) {i : TypeInfo} (ht : P.underlying t = some (.slice e)) (hi : P.info? e = some i) (A : Option Addr) (n c : Nat) (j : Int) (h0 : 0 ≤ j) (hm : j ≤ c) :
    ∀ W : World, (Instr.slice t (.slice A n c) none (some (.int kh j)) none).run P W = .ok (.slice A j.toNat c) W := by
  intro W
  have hel : P.elem t = e := by simp [Program.elem, ht]
  have hu : P.underlying t = some (.slice (P.elem t)) := by rw [hel]; exact ht
  have ha : (A.map fun x => x.add 0) = A := by cases A <;> simp [Addr.add]
  rw [run_slice_h W t A n c hu kh j h0 hm, hel]
  simp [sizeOf, typeInfo, hi, sliced, Result.andThen, ha]
set_option maxRecDepth 100000 in
set_option maxHeartbeats 4000000 in
/-- A list of stamps in new memory, with a mark behind its end. -/
theorem stamps_walk (l : List Stp) (A : Option Addr) (c : Nat) (w : World) (hC : Kd.C kSt w A l.length l) (hl : l.length ≤ 1000000000) :
    Calls Try.prog 4 #[.slice A l.length c] w fun e w' => ∃ g cm, e = .returned (.slice (some ⟨g, 0, none⟩) l.length cm) ∧ l.length + 1 ≤ cm ∧ Kd.R kSt 32 w' w.heap.size (fun k => w.heap.size ≤ k) (.slice (some ⟨g, 0, none⟩) (l.length + 1) cm) (l ++ [markSt]) ∧ Below w.heap.size w w' := by
  have HC := Lib.hid hC
  have HR0 := Lib.hid (Kd.R_nil kSt 32 w w.heap.size (fun k => w.heap.size ≤ k))
  clear hC
  go_enter Try.func4, Try.ntmps4
  go_upto_region 3 with (first | (at_builtin; refine Kd.R_append_rows kSt (Rr := fun x cs => x.Ok ∧ cs = encSt x) (w0 := w) (W := w) w.heap.size rfl (.tmp 4) (.tmp 5) 22 32 _ 56 rfl Try.underlying22 info32 (by decide) (by decide) (by decide) _ [] l A l.length c (fun k => w.heap.size ≤ k) (fun _ => False) rfl rfl HR0.out HC.out (fun _ _ h => h) (fun _ hk => hk.elim) (fun k hk => hk) (Below.refl _ _) (Nat.le_refl _) (by simp; omega) ?_; intro v1 w1 hr1 hb1 hg1 hat1; have HR1 := Lib.hid hr1; have HB1 := Lib.hid hb1; clear hr1 hb1 hg1 hat1))
  rw [List.nil_append] at HR1
  obtain ⟨A1, c1, rfl⟩ := Kd.R_slice HR1.out
  obtain ⟨i32, hi32, _, hs32, _⟩ := info_parts info32
  have hq0 : (0 : Int) ≤ (l.length : Int) := by omega
  go_upto_region 4 with (first | (at_builtin; refine Kd.R_append kSt (W := w1) (w0 := w) w.heap.size rfl (.tmp 7) (.tmp 9) 22 32 _ 56 rfl Try.underlying22 info32 (by decide) (by decide) (by decide) (.slice A1 l.length c1) l markSt (encSt markSt) (fun k => w.heap.size ≤ k) (fun _ => False) rfl (by simp [Act.eval]) ⟨markSt_ok, rfl⟩ (fun _ hk => hk.elim) (fun k hk => Nat.le_trans HB1.out.size hk) HR1.out HB1.out HB1.out.size (by omega) ?_; intro v2 w2 hr2 hb2 hg2 hat2; have HR2 := Lib.hid hr2; have HB2 := Lib.hid hb2; clear hr2 hb2 hg2 hat2))
  have hlen : (l ++ [markSt]).length = l.length + 1 := List.length_append
  obtain ⟨g, cm, rfl, hg1, hg2, _⟩ := Kd.R_form HR2.out (by rw [hlen]; omega)
  have hr2 := HR2.out
  rw [hlen] at hr2
  have hcm : l.length + 1 ≤ cm := by
    have h9 := (Kd.R_reads' HR2.out).2.1
    rw [hlen] at h9; exact h9
  have hsl := cut_cap (P := Try.prog) 22 32 .i64 Try.underlying22 hi32 (some ⟨g, 0, none⟩) (l.length + 1) cm (l.length : Int) (by omega) (by omega)
  rw [Int.toNat_natCast] at hsl
  rw [hlen]
  have HRR := Lib.hid hr2
  have HCM := Lib.hid hcm
  clear hr2 hcm hi32 hs32
  go_wp2_with fail
  go_ret
  exact ⟨g, cm, rfl, HCM.out, HRR.out, HB2.out⟩
end Go.Proofs.Ytkjaffnplehhaaa.Rg
