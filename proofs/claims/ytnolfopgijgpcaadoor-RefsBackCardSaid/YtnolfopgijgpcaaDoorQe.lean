import Derived.Test.YtnolfopgijgpcaaDoorQc
import Derived.Test.YtnolfopgijgpcaaDoorPRefsMappedx4
import Derived.Test.YtnolfopgijgpcaaDoorQd
import Derived.Test.YtnolfopgijgpcaaDoorPRefsMappedx22
import Derived.Test.YtnolfopgijgpcaaDoorPRefsMappedx24
/- The copies that the law hands to the program, with what lies behind their ends: rules (func 15), texts (func 20). The arms of the walks are turned from the printed ones. -/
namespace Go.Proofs.YtnolfopgijgpcaaDoor.Rm
open Go.Lib Go.RowKit Go.Proofs.YtnolfopgijgpcaaDoor.Nm Go.Proofs.YtnolfopgijgpcaaDoor.PRefsMapped Go.Proofs.YtnolfopgijgpcaaDoorW.PrintWords Go.Proofs.YtnolfopgijgpcaaDoorW.PrintLast Go.Proofs.YtnolfopgijgpcaaDoorW.PrintMore
set_option linter.unusedVariables false
set_option linter.unusedSimpArgs false

def mark0 : ByteArray := ⟨#[109, 97, 114, 107]⟩
def markR : S55 := ⟨⟨#[42]⟩, ⟨#[109, 97, 114, 107, 42]⟩, false, false⟩

set_option maxHeartbeats 8000000 in
set_option maxRecDepth 100000 in
theorem rules_walk (A0 : Option Addr) (c0 : Nat) (l0 : List S55) (w : World) (hr0 : Kd.C k55 w A0 l0.length l0) (hc0 : l0.length ≤ c0) (hl : l0.length ≤ 64) :
    Calls Tryd.prog 15 #[.slice A0 l0.length c0] w fun e w' => ∃ Ao co, e = .returned (.slice Ao l0.length co) ∧ Kd.R k55 55 w' w.heap.size (fun _ => True) (.slice Ao (l0.length + 1) co) (l0 ++ [markR]) ∧ Below w.heap.size w w' := by
  have hu55 := Tryd.underlying55
  have HR0 := Lib.hid hr0
  have HC0 := Lib.hid hc0
  clear hr0 hc0
  have HB := Lib.hid (Below.refl w.heap.size w)
  obtain ⟨y121, hy121⟩ : ∃ y_ : List (S55), y_ = (([] : List (S55)) ++ l0) := ⟨_, rfl⟩
  have Ny121 := Lib.hid hy121
  have Ly121 : y121.length = l0.length := by rw [hy121]; simp
  clear hy121
  obtain ⟨y124, hy124⟩ : ∃ y_ : List (S55), y_ = (y121 ++ [markR]) := ⟨_, rfl⟩
  have Ny124 := Lib.hid hy124
  have Ly124 : y124.length = l0.length + 1 := by rw [hy124]; simp [Ly121]
  clear hy124
  have q9 : (l0.length : Int) ≤ (y124.length : Int) := by omega
  have q8 : (0 : Int) ≤ (l0.length : Int) := by omega
  go_enter Tryd.func15, Tryd.ntmps15
  go_wp2_with (first | ((with_reducible refine gate_builtin (b := .append) (xs := #[.tmp 4, .tmp 5]) rfl ?_); at_builtin; refine Kd.R_append_rows k55 (w0 := w) w.heap.size rfl (.tmp 4) (.tmp 5) 39 55 (.agg #[(.string ⟨#[]⟩), (.string ⟨#[]⟩), (.bool false), (.bool false)]) 40 rfl Tryd.underlying39 info55 rfl (by decide) (by omega) (.slice none 0 0) ([] : List (S55)) l0 _ _ _ (fun _ => True) (fun _ => False) rfl rfl ?aO ?aR (fun _ _ h => h) (fun _ h => h.elim) ?aF ?aB ?aS ?aL ?_; (case aR => exact HR0.out); (case aB => exact HB.out); (case aF => exact (fun _ _ => trivial)); (case aO => exact ((Kd.R_nil _ _ _ _ (fun _ => True)))); (case aS => exact (below_size HB.out)); (case aL => simp; omega); intro v122 w6 ho hb hg hat; rw [← Ny121.out] at ho; have n0_ := Lib.hid (hb); have n1_ := Lib.hid (ho); clear HB; have HB := n0_; have HO123 := n1_; clear n0_ n1_; clear ho hb hg hat) | ((with_reducible refine gate_builtin (b := .append) (xs := #[.tmp 7, .tmp 9]) rfl ?_); at_builtin; refine Kd.R_append k55 (w0 := w) w.heap.size rfl (.tmp 7) (.tmp 9) 39 55 (.agg #[(.string ⟨#[]⟩), (.string ⟨#[]⟩), (.bool false), (.bool false)]) 40 rfl Tryd.underlying39 info55 rfl (by decide) (by omega) v122 y121 markR [.string (⟨#[42]⟩ : ByteArray), .string (⟨#[109, 97, 114, 107, 42]⟩ : ByteArray), .bool false, .bool false] (fun _ => True) (fun _ => False) rfl rfl ?aP (fun _ hk => hk.elim) ?aF ?aO ?aB ?aS ?aL ?_; (case aP => exact k55_mkM _ _ _ markR); (case aB => exact (by repeat (first | (with_reducible first | exact HB.out | apply below_alloc | apply pw_below_drewN | apply below_drew1) | exact HB.out))); (case aF => exact (fun _ _ => trivial)); (case aO => exact (by (with_reducible repeat (first | apply Kd.R_alloc | apply Kd.R_drewN | apply Kd.R_drew)); exact HO123.out)); (case aS => exact (below_size (by repeat (first | (with_reducible first | exact HB.out | apply below_alloc | apply pw_below_drewN | apply below_drew1) | exact HB.out)))); (case aL => omega); intro v125 w7 ho hb hg hat; rw [← Ny124.out] at ho; have n0_ := Lib.hid (hb); have n1_ := Lib.hid (ho); clear HB; clear HO123; have HB := n0_; have HO126 := n1_; clear n0_ n1_; clear ho hb hg hat; obtain ⟨Ao8, co8, eo8⟩ := Kd.R_slice HO126.out; subst eo8; obtain ⟨i09, hi09, _, hsz9, _⟩ := info_parts info55; have hcut9 := cut_to (P := Tryd.prog) 39 55 .i64 Tryd.underlying39 hi09 Ao8 y124.length co8 (l0.length : Int) (by omega) q9 (Kd.R_reads' HO126.out).2.1; rw [Int.toNat_natCast, Ly124] at hcut9; have hco9 : l0.length ≤ co8 := (by have := (Kd.R_reads' HO126.out).2.1; omega); clear hi09 hsz9))

  go_ret
  refine ⟨_, _, rfl, ?_, HB.out⟩
  rw [← Ly124]
  have h := HO126.out
  have e : y124 = l0 ++ [markR] := by rw [Ny124.out, Ny121.out]; rfl
  rw [← e]
  exact h

set_option maxHeartbeats 8000000 in
set_option maxRecDepth 100000 in
theorem texts_walk (A0 : Option Addr) (c0 : Nat) (l0 : List ByteArray) (w : World) (hr0 : Kd.C Kd.string w A0 l0.length l0) (hc0 : l0.length ≤ c0) (hl : l0.length ≤ 200) :
    Calls Tryd.prog 20 #[.slice A0 l0.length c0] w fun e w' => ∃ Ao co, e = .returned (.slice Ao l0.length co) ∧ Kd.R Kd.string 9 w' w.heap.size (fun _ => True) (.slice Ao (l0.length + 2) co) (l0 ++ [mark0, mark0]) ∧ Below w.heap.size w w' := by
  have HR0 := Lib.hid hr0
  have HC0 := Lib.hid hc0
  clear hr0 hc0
  have HB := Lib.hid (Below.refl w.heap.size w)
  obtain ⟨y193, hy193⟩ : ∃ y_ : List ByteArray, y_ = (([] : List ByteArray) ++ l0) := ⟨_, rfl⟩
  have Ny193 := Lib.hid hy193
  have Ly193 : y193.length = l0.length := by rw [hy193]; simp
  clear hy193
  obtain ⟨y196, hy196⟩ : ∃ y_ : List ByteArray, y_ = ([(⟨#[109, 97, 114, 107]⟩ : ByteArray), (⟨#[109, 97, 114, 107]⟩ : ByteArray)] : List ByteArray) := ⟨_, rfl⟩
  have Ny196 := Lib.hid hy196
  have Ly196 : y196.length = 2 := by rw [hy196]; rfl
  clear hy196
  obtain ⟨y199, hy199⟩ : ∃ y_ : List ByteArray, y_ = (y193 ++ y196) := ⟨_, rfl⟩
  have Ny199 := Lib.hid hy199
  have Ly199 : y199.length = l0.length + 2 := by rw [hy199]; simp [Ly193, Ly196]
  clear hy199
  have q9 : (l0.length : Int) ≤ (y199.length : Int) := by omega
  have q8 : (0 : Int) ≤ (l0.length : Int) := by omega
  go_enter Tryd.func20, Tryd.ntmps20
  go_wp2_with (first | ((with_reducible refine gate_builtin (b := .append) (xs := #[.tmp 4, .tmp 5]) rfl ?_); at_builtin; refine Kd.R_append_rows Kd.string (w0 := w) w.heap.size rfl (.tmp 4) (.tmp 5) 40 9 (.string ⟨#[]⟩) 16 rfl Tryd.underlying40 info9 rfl (by decide) (by omega) (.slice none 0 0) ([] : List ByteArray) l0 _ _ _ (fun _ => True) (fun _ => False) rfl rfl ?aO ?aR (fun _ _ h => h) (fun _ h => h.elim) ?aF ?aB ?aS ?aL ?_; (case aR => exact HR0.out); (case aB => exact HB.out); (case aF => exact (fun _ _ => trivial)); (case aO => exact ((Kd.R_nil _ _ _ _ (fun _ => True)))); (case aS => exact (below_size HB.out)); (case aL => simp; omega); intro v194 w6 ho hb hg hat; rw [← Ny193.out] at ho; have n0_ := Lib.hid (hb); have n1_ := Lib.hid (ho); clear HB; have HB := n0_; have HO195 := n1_; clear n0_ n1_; clear ho hb hg hat) | ((with_reducible refine gate_dst (N := 8) rfl ?_); refine Kd.R_lit Kd.string _ 9 ?hg (N := 8) ?hd (xs := ([(⟨#[109, 97, 114, 107]⟩ : ByteArray), (⟨#[109, 97, 114, 107]⟩ : ByteArray)] : List ByteArray)) (inner := [.string (⟨#[109, 97, 114, 107]⟩ : ByteArray), .string (⟨#[109, 97, 114, 107]⟩ : ByteArray)]) (ok := fun _ => True) (okp := fun _ => True) ?hr ?hp (fun _ hk => hk) trivial (Below.refl _ _) (Nat.le_refl _) (by simp) ?_; (case hd => rfl); (case hg => rfl); (case hr => first | (go_simp; done) | (go_simp; rfl)); (case hp => exact (Reps.one (show Kd.M Kd.string _ _ _ (⟨#[109, 97, 114, 107]⟩ : ByteArray) [.string (⟨#[109, 97, 114, 107]⟩ : ByteArray)] from rfl) (Reps.one (show Kd.M Kd.string _ _ _ (⟨#[109, 97, 114, 107]⟩ : ByteArray) [.string (⟨#[109, 97, 114, 107]⟩ : ByteArray)] from rfl) (Reps.none _ _)))); intro v197 w7 ho8 hb hg_ hnew_; clear hg_ hnew_; (first | rw [← Ny196.out] at ho8 | (simp only [Int.reduceToNat] at ho8; rw [← Ny196.out] at ho8)); have n0_ := Lib.hid (Kd.R_elder' (by (with_reducible repeat (first | apply Kd.R_alloc | apply Kd.R_drewN | apply Kd.R_drew)); exact HO195.out) (Kd.R_base ho8) hb); have n1_ := Lib.hid (Kd.R_lower (Kd.R_new' ho8 (Kd.R_lt (by (with_reducible repeat (first | apply Kd.R_alloc | apply Kd.R_drewN | apply Kd.R_drew)); exact HO195.out))) (below_size (by repeat (first | (with_reducible first | exact HB.out | apply below_alloc | apply pw_below_drewN | apply below_drew1) | exact HB.out)))); have n2_ := Lib.hid (below_step (by repeat (first | (with_reducible first | exact HB.out | apply below_alloc | apply pw_below_drewN | apply below_drew1) | exact HB.out)) hb); clear HO195; clear HB; have HO195 := n0_; have HO198 := n1_; have HB := n2_; clear n0_ n1_ n2_; clear hb ho8; obtain ⟨Ao10, co10, eo10⟩ := Kd.R_slice HO198.out; subst eo10) | ((with_reducible refine gate_builtin (b := .append) (xs := #[.tmp 7, .tmp 8]) rfl ?_); at_builtin; refine Kd.R_append_rows Kd.string (w0 := w) w.heap.size rfl (.tmp 7) (.tmp 8) 40 9 (.string ⟨#[]⟩) 16 rfl Tryd.underlying40 info9 rfl (by decide) (by omega) v194 y193 y196 _ _ _ (fun k_ => some k_ ≠ (.slice Ao10 y196.length co10 : Value).ownBlock) (fun _ => False) rfl rfl ?aO ?aR (fun _ _ h => h) (fun _ h => h.elim) ?aF ?aB ?aS ?aL ?_; (case aR => repeat (first | exact (Kd.R_reads' HO198.out).2.2 | (with_reducible refine Kd.C_alloc ?_ _) | (with_reducible refine Kd.C_drewN ?_ _) | (with_reducible refine Kd.C_drew ?_))); (case aB => exact (by repeat (first | (with_reducible first | exact HB.out | apply below_alloc | apply pw_below_drewN | apply below_drew1) | exact HB.out))); (case aF => exact (fun k_ hk => Kd.fresh' (Kd.R_lt (by (with_reducible repeat (first | apply Kd.R_alloc | apply Kd.R_drewN | apply Kd.R_drew)); exact HO198.out)) k_ hk)); (case aO => exact (by (with_reducible repeat (first | apply Kd.R_alloc | apply Kd.R_drewN | apply Kd.R_drew)); exact Kd.R_mono HO195.out (fun _ hk => hk.2))); (case aS => exact (below_size (by repeat (first | (with_reducible first | exact HB.out | apply below_alloc | apply pw_below_drewN | apply below_drew1) | exact HB.out)))); (case aL => omega); intro v200 w9 ho hb hg hat; rw [← Ny199.out] at ho; have n1_ := Lib.hid (hb); have n2_ := Lib.hid (ho); clear HO198; clear HB; clear HO195; have HB := n1_; have HO201 := n2_; clear n1_ n2_; clear ho hb hg hat; obtain ⟨Ao11, co11, eo11⟩ := Kd.R_slice HO201.out; subst eo11; obtain ⟨i012, hi012, _, hsz12, _⟩ := info_parts info9; have hcut12 := cut_to (P := Tryd.prog) 40 9 .i64 Tryd.underlying40 hi012 Ao11 y199.length co11 (l0.length : Int) (by omega) q9 (Kd.R_reads' HO201.out).2.1; rw [Int.toNat_natCast, Ly199] at hcut12; have hco9 : l0.length ≤ co11 := (by have := (Kd.R_reads' HO201.out).2.1; omega); clear hi012 hsz12))
  go_ret
  refine ⟨_, _, rfl, ?_, HB.out⟩
  rw [← Ly199]
  have h := Kd.R_mono (ok' := fun _ => True) HO201.out (fun _ _ => trivial)
  have e : y199 = l0 ++ [mark0, mark0] := by rw [Ny199.out, Ny193.out, Ny196.out]; rfl
  rw [← e]
  exact h
end Go.Proofs.YtnolfopgijgpcaaDoor.Rm
/- The law's small helpers: few, intact, untold. -/
namespace Go.Proofs.YtnolfopgijgpcaaDoor.Rm
open Go.Lib Go.RowKit Go.Proofs.YtnolfopgijgpcaaDoor.Nm Go.Proofs.YtnolfopgijgpcaaDoor.PRefsMapped Go.Proofs.YtnolfopgijgpcaaDoorW.PrintWords Go.Proofs.YtnolfopgijgpcaaDoorW.PrintLast Go.Proofs.YtnolfopgijgpcaaDoorW.PrintMore
set_option linter.unusedVariables false
set_option linter.unusedSimpArgs false

theorem sameRules_self (l : List S55) (hl : l.length ≤ big) : ∀ (k i : Nat), l.length + 1 ≤ k + i → i ≤ l.length → satchellaw14_sameRules.l0 k l l (i : Int) = some true
  | 0, i, h, hi => by omega
  | k + 1, i, h, hi => by
    unfold satchellaw14_sameRules.l0
    by_cases hlt : (i : Int) < (l.length : Int)
    · rw [if_pos hlt, if_pos (by omega), if_pos hlt]
      simp only [beq_self_eq_true, Bool.not_true, Bool.or_false, Bool.false_eq_true, if_false]
      rw [wrap_in (by unfold big at *; omega) (by unfold big at *; omega)]
      exact sameRules_self l hl k (i + 1) (by omega) (by omega)
    · rw [if_neg hlt]
theorem eqStrings_self (l : List ByteArray) (hl : l.length ≤ big) : ∀ (k i : Nat), l.length + 1 ≤ k + i → i ≤ l.length → satchelref0_EqStrings.l0 k l l (i : Int) = some true
  | 0, i, h, hi => by omega
  | k + 1, i, h, hi => by
    unfold satchelref0_EqStrings.l0
    by_cases hlt : (i : Int) < (l.length : Int)
    · rw [if_pos hlt, if_pos (by omega), if_pos hlt, if_pos rfl]
      rw [wrap_in (by unfold big at *; omega) (by unfold big at *; omega)]
      exact eqStrings_self l hl k (i + 1) (by omega) (by omega)
    · rw [if_neg hlt]

set_option maxRecDepth 100000 in
set_option maxHeartbeats 4000000 in
theorem few_walk (A B : Option Addr) (n c m d : Nat) (w : World) (hc : n ≤ c) (hd : m ≤ d) (hn : n ≤ big) (hm : m ≤ big) :
    Calls Tryd.prog 14 #[.agg #[.slice A n c, .slice B m d]] w fun e w' => e = .returned (.agg #[.slice A (min n 64) c, .slice B (min m 200) d]) ∧ Below w.heap.size w w' := by
  obtain ⟨i0, hi0, _, _, _⟩ := info_parts info55
  obtain ⟨i1, hi1, _, _, _⟩ := info_parts info9
  obtain ⟨p, hp⟩ : ∃ p, min n 64 = p := ⟨_, rfl⟩
  obtain ⟨q, hq⟩ : ∃ q, min m 200 = q := ⟨_, rfl⟩
  rw [hp, hq]
  by_cases h1 : n ≤ 64 <;> by_cases h2 : m ≤ 200
  all_goals
    first | (have e3 : p = n := by omega) | (have e3 : p = 64 := by omega)
    first | (have e4 : q = m := by omega) | (have e4 : q = 200 := by omega)
    rw [e3, e4]
    clear hp hq e3 e4
    have e1 := cut_to (P := Tryd.prog) 39 55 .i64 Tryd.underlying39 hi0 A n c 64 (by omega)
    have e2 := cut_to (P := Tryd.prog) 40 9 .i64 Tryd.underlying40 hi1 B m d 200 (by omega)
    go_enter Tryd.func14, Tryd.ntmps14
    go_wp2_with fail
  · refine bodyPost_ret (v := .agg #[.slice A n c, .slice B m d]) (by simp [results, Tryd.results14, go_sem]) rfl ⟨rfl, ?_⟩
    exact ((Below.refl _ _).alloc (Nat.le_refl _) _).alloc (by simp [go_sem]) _
  · refine bodyPost_ret (v := .agg #[.slice A n c, .slice B 200 d]) (by simp [results, Tryd.results14, go_sem]) rfl ⟨rfl, ?_⟩
    exact ((Below.refl _ _).alloc (Nat.le_refl _) _).alloc (by simp [go_sem]) _
  · refine bodyPost_ret (v := .agg #[.slice A 64 c, .slice B m d]) (by simp [results, Tryd.results14, go_sem]) rfl ⟨rfl, ?_⟩
    exact ((Below.refl _ _).alloc (Nat.le_refl _) _).alloc (by simp [go_sem]) _
  · refine bodyPost_ret (v := .agg #[.slice A 64 c, .slice B 200 d]) (by simp [results, Tryd.results14, go_sem]) rfl ⟨rfl, ?_⟩
    exact ((Below.refl _ _).alloc (Nat.le_refl _) _).alloc (by simp [go_sem]) _

set_option maxRecDepth 100000 in
set_option maxHeartbeats 4000000 in
theorem intact_walk (l : List S55) (Ao A : Option Addr) (co c : Nat) (w : World) (h0 : Hid (Kd.C k55 w Ao (l ++ [markR]).length (l ++ [markR]))) (hco : l.length + 1 ≤ co) (h1 : Hid (Kd.C k55 w A l.length l)) (hc : l.length ≤ c) (hl : l.length ≤ 64) :
    Calls Tryd.prog 23 #[.slice Ao l.length co, .slice A l.length c] w fun e w' => e = .returned (.bool true) ∧ ∃ n, w' = w.drewN n := by
  have hC0 : Kd.C k55 w Ao l.length l := by
    have h := Kd.C_take (m := l.length) h0.out (by simp)
    rw [List.take_left] at h
    exact h
  obtain ⟨ad, rfl, f0, f1, f2, f3⟩ := rule_at h0.out l.length (by simp)
  rw [List.getElem_concat_length rfl] at f0 f1 f2 f3
  replace f0 : w.cell? (ad.add (l.length * 4)) = some (.string ⟨#[42]⟩) := f0
  replace f1 : w.cell? ⟨(ad.add (l.length * 4)).block, (ad.add (l.length * 4)).off + 1, none⟩ = some (.string ⟨#[109, 97, 114, 107, 42]⟩) := f1
  replace f2 : w.cell? ⟨(ad.add (l.length * 4)).block, (ad.add (l.length * 4)).off + 2, none⟩ = some (.bool false) := f2
  replace f3 : w.cell? ⟨(ad.add (l.length * 4)).block, (ad.add (l.length * 4)).off + 3, none⟩ = some (.bool false) := f3
  have HS := Lib.hid ((satchellaw14_sameRules.calls (l.length + 1) (some ad) co l A c l true w hC0 (by omega) h1.out hc (by unfold satchellaw14_sameRules.f; rw [if_pos rfl]; exact sameRules_self l (by unfold big; omega) _ 0 (by omega) (by omega))).mono fun e w' (h : _ ∧ Drawn0 w w') => (⟨h.1, h.2.out⟩ : _ ∧ ∃ n, w' = w.drewN n))
  have t1 : (⟨#[42]⟩ : ByteArray).toList = [42] := by rw [toList_bl]
  have t2 : (⟨#[109, 97, 114, 107, 42]⟩ : ByteArray).toList = [109, 97, 114, 107, 42] := by rw [toList_bl]
  clear hC0
  go_enter Tryd.func23, Tryd.ntmps23
  go_wp2_with fail
  refine HS.out.mono ?_
  rintro e w1 ⟨rfl, n, rfl⟩
  go_wp2_with fail
  go_ret
  exact ⟨rfl, n, rfl⟩

set_option maxRecDepth 100000 in
set_option maxHeartbeats 4000000 in
theorem untold_walk (l : List ByteArray) (Ao A : Option Addr) (co c : Nat) (w : World) (h0 : Hid (Kd.C Kd.string w Ao (l ++ [mark0, mark0]).length (l ++ [mark0, mark0]))) (hco : l.length + 2 ≤ co) (h1 : Hid (Kd.C Kd.string w A l.length l)) (hc : l.length ≤ c) (hl : l.length ≤ 200) :
    Calls Tryd.prog 24 #[.slice Ao l.length co, .slice A l.length c] w fun e w' => e = .returned (.bool true) ∧ ∃ n, w' = w.drewN n := by
  have hC0 : Kd.C Kd.string w Ao l.length l := by
    have h := Kd.C_take (m := l.length) h0.out (by simp)
    rw [List.take_left] at h
    exact h
  obtain ⟨ad, rfl, f0⟩ := name_at h0.out l.length (by simp)
  obtain ⟨ad1, e1, f1⟩ := name_at h0.out (l.length + 1) (by simp)
  obtain rfl := Option.some.inj e1
  have g0 : (l ++ [mark0, mark0])[l.length]'(by simp) = mark0 := by simp
  have g1 : (l ++ [mark0, mark0])[l.length + 1]'(by simp) = mark0 := by simp
  rw [g0] at f0
  rw [g1] at f1
  replace f0 : w.cell? (ad.add l.length) = some (.string ⟨#[109, 97, 114, 107]⟩) := f0
  replace f1 : w.cell? (ad.add (l.length + 1)) = some (.string ⟨#[109, 97, 114, 107]⟩) := f1
  clear e1 g0 g1
  have HS := Lib.hid ((satchelref0_EqStrings.calls (l.length + 1) (some ad) co l A c l true w hC0 (by omega) h1.out hc (by unfold satchelref0_EqStrings.f; rw [if_pos rfl]; exact eqStrings_self l (by unfold big; omega) _ 0 (by omega) (by omega))).mono fun e w' (h : _ ∧ Drawn0 w w') => (⟨h.1, h.2.out⟩ : _ ∧ ∃ n, w' = w.drewN n))
  have t1 : (⟨#[109, 97, 114, 107]⟩ : ByteArray).toList = [109, 97, 114, 107] := by rw [toList_bl]
  have f1' : w.cell? { block := ad.block, off := ad.off + (l.length + 1) } = some (.string ⟨#[109, 97, 114, 107]⟩) := f1
  have hnat : ((l.length : Int) + 1).toNat = l.length + 1 := by omega
  clear hC0
  go_enter Tryd.func24, Tryd.ntmps24
  go_wp2_with fail
  refine HS.out.mono ?_
  rintro e w1 ⟨rfl, n, rfl⟩
  go_wp2_with fail
  go_ret
  exact ⟨rfl, n, rfl⟩
end Go.Proofs.YtnolfopgijgpcaaDoor.Rm
