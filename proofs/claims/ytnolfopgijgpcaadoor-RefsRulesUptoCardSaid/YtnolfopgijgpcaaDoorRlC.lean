/- The reference's rule and ParseRules are the plain ones. -/
import Derived.Test.YtnolfopgijgpcaaDoorRlB
import Derived.Test.YtnolfopgijgpcaaDoorRlY
namespace Go.Proofs.YtnolfopgijgpcaaDoor.Rm
open Go.Lib Go.RowKit Go.Proofs.YtnolfopgijgpcaaDoor.Nm Go.Proofs.YtnolfopgijgpcaaDoor.PRefsRules Go.Proofs.YtnolfopgijgpcaaDoorW.PrintWords Go.Proofs.YtnolfopgijgpcaaDoorW.PrintLast Go.Proofs.YtnolfopgijgpcaaDoorW.PrintMore
set_option linter.unusedVariables false
set_option linter.unusedSimpArgs false

def ofR (u : R) : S55 := ⟨mk u.src, mk u.dst, u.force, u.not⟩
theorem bl_x : bl ⟨#[120]⟩ = [120] := rfl
theorem rj1_eq (k : Nat) (b : Bool) (x y : By) (f n : Bool) (hx : x.length ≤ 1099511627776) (hy : y.length ≤ 1099511627776) (hk : 1000 ≤ k) (hkx : x.length + 1 ≤ k) (hky : y.length + 1 ≤ k) :
    satchelref14_rule.j1 (k + 1) b (mk x) (mk y) f n = some (mk x, mk y, f, n, b && goodB (putL x [120]) && goodB (putL y [120])) := by
  have px := put_eq (mk x) ⟨#[120]⟩ k (by rw [mk_size]; unfold big; omega) (by unfold big; decide) (by rw [mk_size]; omega)
  have py := put_eq (mk y) ⟨#[120]⟩ k (by rw [mk_size]; unfold big; omega) (by unfold big; decide) (by rw [mk_size]; omega)
  rw [bl_mk, bl_x] at px py
  unfold satchelref14_rule.j1
  dsimp only
  cases b
  · rw [if_neg (by simp)]; rfl
  · rw [if_pos rfl, px]
    simp only [Option.bind_some]
    rw [good_eq _ k hk, bl_mk]
    simp only [Option.bind_some]
    cases goodB (putL x [120])
    · rw [if_neg (by simp)]; rfl
    · rw [if_pos rfl, py]
      simp only [Option.bind_some]
      rw [good_eq _ k hk, bl_mk]
      rfl
theorem two_eq (s : By) (f : Bool) (k : Nat) (hs : s.length ≤ 1099511627776) (hk : s.length + 1010 ≤ k) :
    satchelref14_rule.j0 k (mk s) f = some (mk (twoL s f).1.src, mk (twoL s f).1.dst, (twoL s f).1.force, (twoL s f).1.not, (twoL s f).2) := by
  obtain ⟨k, rfl⟩ : ∃ m, k = m + 2 := ⟨k - 2, by omega⟩
  have hp := parts_eq (mk s) (k + 1) (by rw [mk_size]; exact hs) (by rw [mk_size]; omega)
  rw [bl_mk] at hp
  unfold satchelref14_rule.j0
  dsimp only
  rw [hp]
  simp only [Option.bind_some]
  cases hc : hasColon s && !hasColon (cutB s)
  · have h2 : ¬ (parts [] s).length = 2 := fun e => by rw [(parts_two s).1.1 e] at hc; cases hc
    rw [if_neg (by rw [List.length_map]; omega)]
    unfold twoL
    rw [hc]; rfl
  · rw [(parts_two s).2 hc]
    obtain ⟨a, ha⟩ : ∃ a, cutA s = a := ⟨_, rfl⟩
    obtain ⟨b, hb⟩ : ∃ b, cutB s = b := ⟨_, rfl⟩
    have hsl := colon_split s (by simp only [Bool.and_eq_true] at hc; exact hc.1)
    have hll := congrArg List.length hsl
    simp only [List.length_append, List.length_cons] at hll
    have hw : twoL s f = (⟨a, b, f, false⟩, (hasStar a == hasStar b) && goodB (putL a [120]) && goodB (putL b [120])) := by
      unfold twoL
      rw [hc, if_pos rfl, ha, hb]
    rw [hw]
    rw [ha, hb] at hll ⊢
    clear hw hsl hc hp ha hb
    have e0 : rdOf ByteArray.empty (List.map mk [a, b]) 0 = mk a := rfl
    have e1 : rdOf ByteArray.empty (List.map mk [a, b]) 1 = mk b := rfl
    have sA := star_eq (mk a) (k + 1) (by rw [mk_size]; unfold big; omega) (by rw [mk_size]; omega)
    have sB := star_eq (mk b) (k + 1) (by rw [mk_size]; unfold big; omega) (by rw [mk_size]; omega)
    rw [bl_mk] at sA sB
    have J := fun c => rj1_eq k c a b f false (by omega) (by omega) (by omega) (by omega) (by omega)
    simp only [e0, e1, sA, sB, Option.bind_some, J]
    have hl2 : ((List.map mk [a, b]).length : Int) = 2 := rfl
    rw [if_pos hl2, if_pos (by rw [hl2]; decide), if_pos (by rw [hl2]; decide)]
    cases h0 : hasStar a <;> cases h1 : hasStar b
    · rw [starI_neg h0, starI_neg h1]; rfl
    · rw [starI_neg h0, starI_pos h1, if_neg (by decide), if_pos (by decide), decide_eq_false (by omega)]; rfl
    · rw [starI_pos h0, starI_neg h1, if_pos (by omega), if_neg (by decide), if_neg (by omega)]; rfl
    · rw [starI_pos h0, starI_pos h1, if_pos (by omega), if_pos (by omega)]; rfl
theorem rule_eq (w : By) (k : Nat) (hne : w ≠ []) (hs : w.length ≤ 1099511627776) (hk : w.length + 1010 ≤ k) :
    satchelref14_rule.f k (mk w) = some (mk (ruleL w).1.src, mk (ruleL w).1.dst, (ruleL w).1.force, (ruleL w).1.not, (ruleL w).2) := by
  cases w with
  | nil => exact absurd rfl hne
  | cons c s =>
    have e : ruleL (c :: s) = if c = 94 then (⟨s, [], false, true⟩, goodB (putL s [120])) else if c = 43 then twoL s true else twoL (c :: s) false := rfl
    have hg : bt (mk (c :: s)) 0 = (c.toNat : Int) := rfl
    have hex : (mk (c :: s)).extract 1 (mk (c :: s)).size = mk s := by rw [extract_from, bl_mk]; rfl
    have hsz : (mk (c :: s)).size = s.length + 1 := by rw [mk_size]; rfl
    rw [List.length_cons] at hs hk
    unfold satchelref14_rule.f
    have hp1 : (1 : Int) ≤ ((s.length + 1 : Nat) : Int) := by omega
    rw [hg, hex, hsz, e, if_pos (by omega)]
    by_cases h1 : c = 94
    · have px := put_eq (mk s) ⟨#[120]⟩ k (by rw [mk_size]; unfold big; omega) (by unfold big; decide) (by rw [mk_size]; omega)
      rw [bl_mk, bl_x] at px
      rw [if_pos h1, if_pos (by rw [h1]; rfl), if_pos hp1, px]
      simp only [Option.bind_some]
      rw [good_eq _ k (by omega), bl_mk]
      rfl
    · have n1 : ¬ (c.toNat : Int) = 94 := fun q => h1 (UInt8.toNat_inj.1 (by have : (94 : UInt8).toNat = 94 := rfl; omega))
      rw [if_neg h1, if_neg n1]
      by_cases h2 : c = 43
      · rw [if_pos h2, if_pos (by rw [h2]; rfl), if_pos hp1, h2]
        exact two_eq s true k (by omega) (by omega)
      · have n2 : ¬ (c.toNat : Int) = 43 := fun q => h2 (UInt8.toNat_inj.1 (by have : (43 : UInt8).toNat = 43 := rfl; omega))
        rw [if_neg h2, if_neg n2, beq_eq_false_iff_ne.2 n2]
        exact two_eq (c :: s) false k (by simp; omega) (by simp; omega)
theorem parse_loop (ws : List By) (N : Nat) (hN : N ≤ 1099511627776) (hw : ∀ w ∈ ws, w ≠ [] ∧ w.length ≤ N) (hl : ws.length ≤ 1099511627776) : ∀ (d i k : Nat), i ≤ ws.length → ws.length - i ≤ d → d + N + 1020 ≤ k → (∀ j (hj : j < ws.length), j < i → (ruleL ws[j]).2 = true) →
    satchelref14_ParseRules.l0 k (ws.map mk) ((ws.take i).map fun w => ofR (ruleL w).1) (i : Int) = some ((told ws).1.map ofR, ((told ws).2 : Int))
  | d, i, 0, _, _, hk, _ => by omega
  | d, i, k + 1, hi, hd, hk, hb => by
    have htl : ((ws.take i).map fun w => ofR (ruleL w).1).length = i := by rw [List.length_map, List.length_take]; omega
    unfold satchelref14_ParseRules.l0
    rw [htl, List.length_map]
    by_cases h : i < ws.length
    · obtain ⟨h1, h2⟩ := hw ws[i] (List.getElem_mem h)
      have hr : rdOf ByteArray.empty (ws.map mk) (i : Int) = mk ws[i] := by simp [rdOf, h]
      rw [if_pos (by omega), if_pos (by omega), hr, rule_eq ws[i] k h1 (by omega) (by omega)]
      simp only [Option.bind_some]
      cases hq : (ruleL ws[i]).2
      · rw [if_neg (by simp), told_bad h hq]; rfl
      · rw [if_pos rfl, if_pos (by omega), show wrap64 ((i : Int) + 1) = ((i + 1 : Nat) : Int) from by unfold wrap64; omega]
        have hs : (ws.take (i + 1)).map (fun w => ofR (ruleL w).1) = ((ws.take i).map fun w => ofR (ruleL w).1) ++ [ofR (ruleL ws[i]).1] := by
          rw [List.take_succ_eq_append_getElem h, List.map_append]; rfl
        have := parse_loop ws N hN hw hl (d - 1) (i + 1) k (by omega) (by omega) (by omega) (fun j hj hji => by
          by_cases e : j = i
          · subst e; exact hq
          · exact hb j hj (by omega))
        rw [hs] at this
        exact this
    · have hi' : i = ws.length := by omega
      rw [if_neg (by omega)]
      by_cases h64 : 64 < ws.length
      · rw [if_pos (by omega), told_long h64]; rfl
      · rw [if_neg (by omega), told_good (fun j hj => hb j hj (by omega)) (by omega), hi', List.take_length, List.map_map]; rfl
termination_by d i k => k
theorem le_sum : ∀ (l : List Nat) (a : Nat), a ∈ l → a ≤ l.sum
  | [], a, h => by simp at h
  | b :: l, a, h => by
    rw [List.sum_cons]
    rcases List.mem_cons.1 h with rfl | h
    · omega
    · have := le_sum l a h; omega
theorem word_len {s w : By} (h : w ∈ wordsL [] s) : w.length ≤ s.length + 1 := by
  have h1 := words_len s []
  have h2 : w.length ≤ ((wordsL [] s).map List.length).sum := le_sum _ _ (List.mem_map_of_mem h)
  simp at h1
  omega
theorem words_count (s : By) : (wordsL [] s).length ≤ s.length + 1 := by
  have h1 := words_len s []
  simp at h1
  omega
theorem parse_eq (s : ByteArray) (hs : s.size ≤ 1073741824) (k : Nat) (hk : 4 * s.size + 4000 ≤ k) : satchelref14_ParseRules.f k s = some ((told (wordsL [] (bl s))).1.map ofR, ((told (wordsL [] (bl s))).2 : Int)) := by
  unfold satchelref14_ParseRules.f
  rw [words_eq s _ (by omega) (by omega)]
  simp only [Option.bind_some]
  have hc := words_count (bl s)
  rw [bl_length] at hc
  exact parse_loop (wordsL [] (bl s)) (s.size + 1) (by omega) (fun w hw => ⟨(words_all (bl s) [] (fun b hb => by simp at hb) w hw).1, by have := word_len hw; rw [bl_length] at this; exact this⟩) (by omega) (s.size + 1) 0 _ (by omega) (by omega) (by omega) (fun j hj h => by omega)
theorem refParse (s : ByteArray) (w : World) (hs : s.size ≤ 1073741824) :
    Calls Tryd.prog 26 #[.string s] w fun e w' => ∃ v0_ : Value, e = .returned (.tuple #[v0_, .int .i64 ((told (wordsL [] (bl s))).2 : Int)]) ∧ Kd.R k55 55 w' w.heap.size (fun _ => True) v0_ ((told (wordsL [] (bl s))).1.map ofR) ∧ Below w.heap.size w w' :=
  satchelref14_ParseRules.calls _ s _ _ w (parse_eq s hs (4 * s.size + 4000) (Nat.le_refl _))
end Go.Proofs.YtnolfopgijgpcaaDoor.Rm
