/- The leaves of the program's ParseRules: CutPrefix, Cut at a colon, good, the predicate. -/
import Derived.Test.YtnolfopgijgpcaaDoorRlC
namespace Go.Proofs.YtnolfopgijgpcaaDoor.Rm
open Go.Lib Go.RowKit Go.Proofs.YtnolfopgijgpcaaDoor.Nm Go.Proofs.YtnolfopgijgpcaaDoor.PRefsRules Go.Proofs.YtnolfopgijgpcaaDoorW.PrintWords Go.Proofs.YtnolfopgijgpcaaDoorW.PrintLast Go.Proofs.YtnolfopgijgpcaaDoorW.PrintMore
set_option linter.unusedVariables false
set_option linter.unusedSimpArgs false

theorem index_colon : ∀ (s : By), Lib.indexByte s 58 = if hasColon s then ((cutA s).length : Int) else -1
  | [] => rfl
  | b :: r => by
    have ih := index_colon r
    unfold Lib.indexByte
    by_cases hb : b = 58
    · subst hb
      rw [if_pos (by simp)]
      have e1 : cutA ((58 : UInt8) :: r) = [] := by unfold cutA; rw [List.takeWhile_cons, show noColon 58 = false from rfl, if_neg (by simp)]
      have e2 : hasColon ((58 : UInt8) :: r) = true := by unfold hasColon; rw [e1]; simp
      rw [e2, e1]; rfl
    · rw [if_neg (by simpa using hb), ih]
      have h2 : noColon b = true := by unfold noColon; simpa using hb
      have e1 : cutA (b :: r) = b :: cutA r := by unfold cutA; rw [List.takeWhile_cons, h2, if_pos rfl]
      have e2 : hasColon (b :: r) = hasColon r := by unfold hasColon; rw [e1]; simp
      rw [e2, e1]
      cases h : hasColon r
      · rfl
      · rw [if_pos rfl, if_neg (by simp), if_pos rfl]; simp
theorem cutA_none {s : By} (h : hasColon s = false) : cutA s = s := by
  unfold hasColon at h
  have h' := of_decide_eq_false h
  exact (List.takeWhile_prefix _).eq_of_length_le (by unfold cutA at h'; omega)
theorem cutB_none {s : By} (h : hasColon s = false) : cutB s = [] := by
  unfold cutB
  rw [cutA_none h]
  exact List.drop_eq_nil_of_le (by omega)
theorem cutA_take (s : By) : s.take (cutA s).length = cutA s := (List.prefix_iff_eq_take.1 (List.takeWhile_prefix _)).symm
theorem cut_colon (s : ByteArray) (w : World) (hs : s.size ≤ big) :
    Calls Tryd.prog 58 #[.string s, .string ⟨#[58]⟩] w fun e w' => e = .returned (.tuple #[.string (mk (cutA (bl s))), .string (mk (cutB (bl s))), .bool (hasColon (bl s))]) ∧ ∃ n, w' = w.drewN n := by
  have hi := Tryd.stringslite_Index_one s 58 w
  rw [show s.data.toList = bl s from rfl, index_colon] at hi
  have hsz : s.size ≤ 2305843009213693952 := hs
  cases h : hasColon (bl s)
  · rw [h, if_neg (by simp)] at hi
    have HI := Lib.hid hi
    have H0 := Lib.hid h
    clear hi h
    go_enter Tryd.func58, Tryd.ntmps58
    go_wp2_with fail
    refine HI.out.mono ?_
    rintro e w' ⟨rfl, rfl⟩
    go_wp2_with fail
    go_ret3
    refine ⟨?_, 0, rfl⟩
    rw [cutA_none H0.out, cutB_none H0.out, mk_bl]; rfl
  · rw [h, if_pos rfl] at hi
    have hl := of_decide_eq_true (show decide ((cutA (bl s)).length < (bl s).length) = true from h)
    rw [bl_length] at hl
    obtain ⟨p, hp⟩ : ∃ p, (cutA (bl s)).length = p := ⟨_, rfl⟩
    rw [hp] at hi hl
    have hps : p + 1 ≤ s.size := by omega
    have HI := Lib.hid hi
    have HP := Lib.hid hp
    clear hi h hp hl
    go_enter Tryd.func58, Tryd.ntmps58
    go_wp2_with fail
    refine HI.out.mono ?_
    rintro e w' ⟨rfl, rfl⟩
    go_wp2_with fail
    go_quiet (fail)
    go_wp2_with fail
    go_ret3
    refine ⟨?_, _, rfl⟩
    have e1 : s.extract 0 p = mk (cutA (bl s)) := by rw [extract_to, ← HP.out, cutA_take]
    have e2 : s.extract (p + 1) s.size = mk (cutB (bl s)) := by rw [extract_from, ← HP.out]; rfl
    rw [← e1, ← e2]
    rfl
theorem cut_colon' (s : ByteArray) (w : World) (hs : s.size ≤ big) :
    Calls Tryd.prog 43 #[.string s, .string ⟨#[58]⟩] w fun e w' => e = .returned (.tuple #[.string (mk (cutA (bl s))), .string (mk (cutB (bl s))), .bool (hasColon (bl s))]) ∧ ∃ n, w' = w.drewN n := by
  have HC := Lib.hid (cut_colon s w hs)
  go_enter Tryd.func43, Tryd.ntmps43
  go_wp2_with fail
  refine HC.out.mono ?_
  rintro e w' ⟨rfl, n, rfl⟩
  go_wp2_with fail
  go_ret3
  exact ⟨rfl, n, rfl⟩
theorem pre_yes (c : UInt8) (s : By) (w : World) : Calls Tryd.prog 41 #[.string (mk (c :: s)), .string ⟨#[c]⟩] w fun e w' => e = .returned (.tuple #[.string (mk s), .bool true]) ∧ w' = w := by
  have h := Tryd.strings_CutPrefix (mk (c :: s)) ⟨#[c]⟩ w
  have e1 : Lib.hasPrefix (mk (c :: s)).data.toList (⟨#[c]⟩ : ByteArray).data.toList = true := by show List.isPrefixOf [c] (c :: s) = true; simp [List.isPrefixOf]
  have e2 : Lib.trimPrefix (mk (c :: s)).data.toList (⟨#[c]⟩ : ByteArray).data.toList = s := by unfold Lib.trimPrefix; rw [e1, if_pos rfl]; rfl
  rw [e1, e2] at h
  exact h
theorem pre_no (c d : UInt8) (s : By) (w : World) (hd : d ≠ c) : Calls Tryd.prog 41 #[.string (mk (c :: s)), .string ⟨#[d]⟩] w fun e w' => e = .returned (.tuple #[.string (mk (c :: s)), .bool false]) ∧ w' = w := by
  have h := Tryd.strings_CutPrefix (mk (c :: s)) ⟨#[d]⟩ w
  have e1 : Lib.hasPrefix (mk (c :: s)).data.toList (⟨#[d]⟩ : ByteArray).data.toList = false := by
    show List.isPrefixOf [d] (c :: s) = false
    simp [List.isPrefixOf, hd]
  have e2 : Lib.trimPrefix (mk (c :: s)).data.toList (⟨#[d]⟩ : ByteArray).data.toList = c :: s := by unfold Lib.trimPrefix; rw [e1, if_neg (by simp)]; rfl
  rw [e1, e2] at h
  exact h
theorem good_walk (s : By) (w : World) (hT : Lib.Utf8Tabs 0 1 w) (hs : s.length ≤ 1099511627776) :
    Calls Tryd.prog 42 #[.agg #[.string (mk (ahd s)), .string (mk (bhd s)), .bool (hasStar s)]] w fun e w' => e = .returned (.bool (goodB (putL s [120]))) ∧ Below w.heap.size w w' := by
  have hpl : (putL s [120]).length ≤ s.length + 1 := by
    unfold putL
    split
    · rename_i h
      have := suf_length s h
      simp; omega
    · omega
  have HP := Lib.hid (fun W => progPut s ⟨#[120]⟩ W (by unfold big; omega) (by unfold big; decide))
  have HC := Lib.hid (fun W hb => check_walk (mk (putL s [120])) W (by rw [mk_size]; omega) (tabs_below hT hb))
  rw [bl_mk] at HC
  rw [show bl ⟨#[120]⟩ = [120] from rfl] at HP
  have HB := Lib.hid ((Below.refl w.heap.size w).alloc (Nat.le_refl _) (.cells #[.string (mk (ahd s)), .string (mk (bhd s)), .bool (hasStar s)] 65))
  obtain ⟨g, hg⟩ : ∃ g, goodB (putL s [120]) = g := ⟨_, rfl⟩
  rw [hg] at HC ⊢
  clear hg hpl
  obtain ⟨q, hq⟩ : ∃ q, putL s [120] = q := ⟨_, rfl⟩
  rw [hq] at HC HP
  clear hq
  obtain ⟨a, ha⟩ : ∃ a, mk (ahd s) = a := ⟨_, rfl⟩
  obtain ⟨b, hb⟩ : ∃ b, mk (bhd s) = b := ⟨_, rfl⟩
  obtain ⟨c, hc⟩ : ∃ c, hasStar s = c := ⟨_, rfl⟩
  rw [ha, hb, hc] at HP HB ⊢
  clear ha hb hc
  go_enter Tryd.func42, Tryd.ntmps42
  go_wp2_with fail
  refine (HP.out _).mono ?_
  rintro e w1 ⟨rfl, hb⟩
  have HB1 := Lib.hid (HB.out.trans (hb.mono HB.out.size))
  clear hb
  go_wp2_with fail
  refine (HC.out _ HB1.out).mono ?_
  rintro e w2 ⟨rfl, hb⟩
  have HB2 := Lib.hid (HB1.out.trans (hb.mono HB1.out.size))
  clear hb
  cases g
  · rw [show ans false = 140 from rfl]
    go_wp2_with fail
    go_ret
    exact ⟨rfl, HB2.out⟩
  · rw [show ans true = 0 from rfl]
    go_wp2_with fail
    go_ret
    exact ⟨rfl, HB2.out⟩
/-- The function that parts: a blank or a line's end. -/
theorem sep_pred (w : World) : PredAt Tryd.prog 40 #[] Go.Proofs.encR sepR w := fun W r _ => by
  unfold FnGives
  have h1 : sepR r = (decide (((r : Nat) : Int) = 32) || decide (((r : Nat) : Int) = 10)) := by
    unfold sepR
    rw [Bool.eq_iff_iff]
    simp only [Bool.or_eq_true, beq_iff_eq, decide_eq_true_eq]
    omega
  rw [h1]
  by_cases h : ((r : Nat) : Int) = 32
  · go_enter Tryd.func40, Tryd.ntmps40
    go_wp2
    go_ret
    exact ⟨by simp [h], 0, rfl⟩
  · by_cases h' : ((r : Nat) : Int) = 10
    · go_enter Tryd.func40, Tryd.ntmps40
      go_wp2
      go_ret
      exact ⟨by simp [h'], 0, rfl⟩
    · go_enter Tryd.func40, Tryd.ntmps40
      go_wp2
      go_ret
      exact ⟨by simp [h, h'], 0, rfl⟩
end Go.Proofs.YtnolfopgijgpcaaDoor.Rm
