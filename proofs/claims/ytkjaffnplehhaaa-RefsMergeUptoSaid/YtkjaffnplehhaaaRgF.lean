/- The two closures of refs.Merge; that the one orders. -/
import Derived.Test.YtkjaffnplehhaaaRgE
import Derived.Test.YtkjaffnplehhaaaShelf
namespace Go.Proofs.Ytkjaffnplehhaaa.Rg
open Go Go.Lib Go.RowKit Go.ChangeMaps Go.Proofs.YtkjaffnplehhaaaW.PrintWords Go.Proofs.YtkjaffnplehhaaaW.PrintLast Go.Proofs.YtkjaffnplehhaaaW.PrintMore Go.Proofs.Ytkjaffnplehhaaa.PRefsMerge Go.Sort
set_option linter.unusedVariables false
set_option linter.unusedSimpArgs false
/-- What refs.Merge sorts by. -/
def cf (x y : Stp) : Int := if x.n = y.n ∧ x.seq = y.seq then compareBytes y.id x.id else if x.n = y.n then (if y.seq < x.seq then -1 else 1) else compareBytes x.n y.n
theorem cf_lt (x y : Stp) : cf x y < 0 ↔ x.n < y.n ∨ (x.n = y.n ∧ bt x y) := by
  unfold cf bt
  by_cases h1 : x.n = y.n
  · have hi : ¬ x.n < y.n := by rw [h1]; exact by_lt_irrefl _
    by_cases h2 : x.seq = y.seq
    · rw [if_pos ⟨h1, h2⟩, cmpb_lt]
      have h3 : ¬ y.seq < x.seq := by omega
      simp [hi, h1, h2, by_lt_irrefl]
    · rw [if_neg (fun h => h2 h.2), if_pos h1]
      by_cases h3 : y.seq < x.seq
      · simp [h3, h1]
      · simp [h3, h1, h2, by_lt_irrefl]
  · rw [if_neg (fun h => h1 h.1), if_neg h1, cmpb_lt]
    simp [h1]
def OSt := { x : Stp // x.Ok }
instance : Inhabited OSt := ⟨⟨markSt, markSt_ok⟩⟩
def encO (x : OSt) : List Value := encSt x.1
def cfO (x y : OSt) : Int := cf x.1 y.1
theorem ltO (x y : OSt) : ltOf cfO x y = true ↔ x.1.n < y.1.n ∨ (x.1.n = y.1.n ∧ bt x.1 y.1) := by
  unfold ltOf cfO
  rw [decide_eq_true_eq, cf_lt]
theorem ltO_false (x y : OSt) : ltOf cfO x y = false ↔ leS y.1 x.1 := by
  rw [Bool.eq_false_iff, ne_eq, ltO]
  unfold leS
  constructor
  · intro h
    rcases by_tri y.1.n x.1.n with h1 | h1 | h1
    · exact .inl h1
    · exact .inr ⟨h1, fun h2 => h (.inr ⟨h1.symm, h2⟩)⟩
    · exact absurd (.inl h1) h
  · rintro (h | ⟨h1, h2⟩) (h3 | ⟨h3, h4⟩)
    · exact by_lt_irrefl _ (by_lt_trans h h3)
    · rw [h3] at h; exact by_lt_irrefl _ h
    · rw [h1] at h3; exact by_lt_irrefl _ h3
    · exact h2 h4
theorem leS_trans {a b c : Stp} (h1 : leS a b) (h2 : leS b c) : leS a c := by
  rcases h1 with h1 | ⟨e1, n1⟩ <;> rcases h2 with h2 | ⟨e2, n2⟩
  · exact .inl (by_lt_trans h1 h2)
  · exact .inl (e2 ▸ h1)
  · exact .inl (e1 ▸ h2)
  · exact .inr ⟨e1.trans e2, not_bt_trans e1 e2 n1 n2⟩
theorem swoO : SWO (ltOf cfO) where
  irrefl x := by
    rw [ltO_false]
    exact .inr ⟨rfl, bt_irrefl _⟩
  trans x y z h1 h2 := by
    rw [ltO] at *
    rcases h1 with h1 | ⟨e1, n1⟩ <;> rcases h2 with h2 | ⟨e2, n2⟩
    · exact .inl (by_lt_trans h1 h2)
    · exact .inl (e2 ▸ h1)
    · exact .inl (e1 ▸ h2)
    · exact .inr ⟨e1.trans e2, bt_trans n1 n2⟩
  ntrans x y z h1 h2 := by
    rw [ltO_false] at *
    exact leS_trans h2 h1
theorem str_eq (a b : By) : ((⟨a.toArray⟩ : ByteArray) = ⟨b.toArray⟩) ↔ a = b := by simp
set_option maxRecDepth 100000 in
set_option maxHeartbeats 4000000 in
theorem cmp_clo (x y : Stp) (hx : x.Ok) (hy : y.Ok) (w : World) :
    Calls Try.prog 11 #[vSt x, vSt y] w fun e w' => e = .returned (.int .i64 (cf x y)) ∧ ∃ q os, w' = grow (w.drewN q) os := by
  obtain ⟨w1, hw1⟩ : ∃ w1, w.alloc (Obj.cells (encSt x).toArray 32) = w1 := ⟨_, rfl⟩
  obtain ⟨w2, hw2⟩ : ∃ w2, w1.alloc (Obj.cells (encSt y).toArray 32) = w2 := ⟨_, rfl⟩
  have HX1 : StAt w1 ⟨w.heap.size, 0, none⟩ x := hw1 ▸ StAt.new hx w 32
  have HY2 : StAt w2 ⟨w1.heap.size, 0, none⟩ y := hw2 ▸ StAt.new hy w1 32
  have hb12 : Below w1.heap.size w1 w2 := hw2 ▸ below_alloc (Below.refl _ _) _
  have HG := Lib.hid (show ∀ q, ∃ q' os, w2.drewN q = grow (w.drewN q') os from fun q => ⟨q, _, by rw [← hw2, ← hw1, alloc_eq_grow, alloc_eq_grow, grow_grow]; rfl⟩)
  have HX2 := HX1.below hb12
  have nx := HX2.name
  have ny := HY2.name
  have sx := HX2.seq
  have sy := HY2.seq
  have ix := HX2.id
  have iy := HY2.id
  simp only [Nat.zero_add] at sx sy ix iy
  have HBC := Lib.hid (fun q : Nat => by
    have h := bcmp_walk y.id x.id ⟨w1.heap.size, 1, none⟩ ⟨w.heap.size, 1, none⟩ 32 32 (w2.drewN q) (iy.below (pw_below_drewN (Below.refl _ _) q)) (ix.below (pw_below_drewN (Below.refl _ _) q))
    rw [hx.id, hy.id] at h
    exact h)
  have HSC := Lib.hid (fun W : World => Try.strings_Compare ⟨x.n.toArray⟩ ⟨y.n.toArray⟩ W)
  clear HX1 HY2 hb12 HX2 ix iy
  by_cases h1 : x.n = y.n
  · rw [← h1] at ny
    obtain ⟨b, hb⟩ : ∃ b : ByteArray, (⟨x.n.toArray⟩ : ByteArray) = b := ⟨_, rfl⟩
    rw [hb] at nx ny
    by_cases h2 : x.seq = y.seq
    · have HR := Lib.hid (show cf x y = compareBytes y.id x.id by unfold cf; rw [if_pos ⟨h1, h2⟩])
      rw [← h2] at sy
      clear h1 h2 hb
      go_enter Try.func11, Try.ntmps11
      go_wp2_with fail
      go_quiet (refine (HBC.out _).mono (fun e w' hh => ⟨hh.1, _, hh.2⟩))
      go_wp2_with fail
      go_ret
      exact ⟨by rw [HR.out]; rfl, HG.out _⟩
    · have h2' : ¬ (x.seq : Int) = (y.seq : Int) := by omega
      by_cases h3 : y.seq < x.seq
      · have h3' : (y.seq : Int) < (x.seq : Int) := by omega
        have HR := Lib.hid (show cf x y = -1 by unfold cf; rw [if_neg (fun h => h2 h.2), if_pos h1, if_pos h3])
        clear h1 h2 hb h3
        go_enter Try.func11, Try.ntmps11
        go_wp2_with fail
        go_ret
        exact ⟨by rw [HR.out]; rfl, HG.out 0⟩
      · have h3' : ¬ (y.seq : Int) < (x.seq : Int) := by omega
        have HR := Lib.hid (show cf x y = 1 by unfold cf; rw [if_neg (fun h => h2 h.2), if_pos h1, if_neg h3])
        clear h1 h2 hb h3
        go_enter Try.func11, Try.ntmps11
        go_wp2_with fail
        go_ret
        exact ⟨by rw [HR.out]; rfl, HG.out 0⟩
  · have HR := Lib.hid (show cf x y = compareBytes (⟨x.n.toArray⟩ : ByteArray).data.toList (⟨y.n.toArray⟩ : ByteArray).data.toList by unfold cf; rw [if_neg (fun h => h1 h.1), if_neg h1])
    have hne : ((⟨x.n.toArray⟩ : ByteArray).toList == (⟨y.n.toArray⟩ : ByteArray).toList) = false := by simp [ByteArray.toList_eq, h1]
    obtain ⟨b, hb⟩ : ∃ b : ByteArray, (⟨x.n.toArray⟩ : ByteArray) = b := ⟨_, rfl⟩
    obtain ⟨c, hc⟩ : ∃ c : ByteArray, (⟨y.n.toArray⟩ : ByteArray) = c := ⟨_, rfl⟩
    rw [hb] at nx hne HSC HR
    rw [hc] at ny hne HSC HR
    clear h1 hb hc
    go_enter Try.func11, Try.ntmps11
    go_wp2_with (go_at_call 13; refine (HSC.out _).mono ?_; rintro e w3 ⟨rfl, rfl⟩)
    go_ret
    exact ⟨by rw [HR.out]; rfl, HG.out 0⟩
set_option maxRecDepth 100000 in
set_option maxHeartbeats 4000000 in
theorem eq_clo (x y : Stp) (hx : x.Ok) (hy : y.Ok) (w : World) :
    Calls Try.prog 15 #[vSt x, vSt y] w fun e w' => e = .returned (.bool (decide (x.n = y.n))) ∧ ∃ q os, w' = grow (w.drewN q) os := by
  obtain ⟨w1, hw1⟩ : ∃ w1, w.alloc (Obj.cells (encSt x).toArray 32) = w1 := ⟨_, rfl⟩
  obtain ⟨w2, hw2⟩ : ∃ w2, w1.alloc (Obj.cells (encSt y).toArray 32) = w2 := ⟨_, rfl⟩
  have HX1 : StAt w1 ⟨w.heap.size, 0, none⟩ x := hw1 ▸ StAt.new hx w 32
  have HY2 : StAt w2 ⟨w1.heap.size, 0, none⟩ y := hw2 ▸ StAt.new hy w1 32
  have hb12 : Below w1.heap.size w1 w2 := hw2 ▸ below_alloc (Below.refl _ _) _
  have HG := Lib.hid (show ∀ q, ∃ q' os, w2.drewN q = grow (w.drewN q') os from fun q => ⟨q, _, by rw [← hw2, ← hw1, alloc_eq_grow, alloc_eq_grow, grow_grow]; rfl⟩)
  have HX2 := HX1.below hb12
  have nx := HX2.name
  have ny := HY2.name
  have HLX := Lib.hid HX2.load
  have HLY := Lib.hid HY2.load
  have hn := eql_st hx hy
  have hg := fun op a b => guard_st op a b x y
  clear HX1 HY2 hb12 HX2
  by_cases h1 : x.n = y.n
  · have HR := Lib.hid (show decide (x.n = y.n) = true by simpa using h1)
    rw [← h1] at ny
    obtain ⟨b, hb⟩ : ∃ b : ByteArray, (⟨x.n.toArray⟩ : ByteArray) = b := ⟨_, rfl⟩
    rw [hb] at nx ny
    clear h1 hb
    by_cases h2 : x = y
    · rw [show decide (x = y) = true by simpa using h2] at hn
      clear h2
      go_enter Try.func15, Try.ntmps15
      go_wp2_with (first | (with_reducible refine wpList_ldg rfl 32 (.tmp 2) rfl ⟨w.heap.size, 0, none⟩ rfl _ HLX.out ?_) | (with_reducible refine wpList_ldg rfl 32 (.tmp 3) rfl ⟨w1.heap.size, 0, none⟩ rfl _ HLY.out ?_))
      go_ret
      exact ⟨by rw [HR.out]; rfl, HG.out 0⟩
    · rw [show decide (x = y) = false by simpa using h2] at hn
      clear h2
      go_enter Try.func15, Try.ntmps15
      go_wp2_with (first | (with_reducible refine wpList_ldg rfl 32 (.tmp 2) rfl ⟨w.heap.size, 0, none⟩ rfl _ HLX.out ?_) | (with_reducible refine wpList_ldg rfl 32 (.tmp 3) rfl ⟨w1.heap.size, 0, none⟩ rfl _ HLY.out ?_))
      go_ret
      exact ⟨by rw [HR.out]; rfl, HG.out 0⟩
  · have HR := Lib.hid (show decide (x.n = y.n) = false by simpa using h1)
    have h2 : ¬ x = y := fun h => h1 (by rw [h])
    rw [show decide (x = y) = false by simpa using h2] at hn
    have hne : ((⟨x.n.toArray⟩ : ByteArray).toList == (⟨y.n.toArray⟩ : ByteArray).toList) = false := by simp [ByteArray.toList_eq, h1]
    obtain ⟨b, hb⟩ : ∃ b : ByteArray, (⟨x.n.toArray⟩ : ByteArray) = b := ⟨_, rfl⟩
    obtain ⟨c, hc⟩ : ∃ c : ByteArray, (⟨y.n.toArray⟩ : ByteArray) = c := ⟨_, rfl⟩
    rw [hb] at nx hne
    rw [hc] at ny hne
    clear h1 h2 hb hc
    go_enter Try.func15, Try.ntmps15
    go_wp2_with (first | (with_reducible refine wpList_ldg rfl 32 (.tmp 2) rfl ⟨w.heap.size, 0, none⟩ rfl _ HLX.out ?_) | (with_reducible refine wpList_ldg rfl 32 (.tmp 3) rfl ⟨w1.heap.size, 0, none⟩ rfl _ HLY.out ?_))
    go_ret
    exact ⟨by rw [HR.out]; rfl, HG.out 0⟩
end Go.Proofs.Ytkjaffnplehhaaa.Rg
