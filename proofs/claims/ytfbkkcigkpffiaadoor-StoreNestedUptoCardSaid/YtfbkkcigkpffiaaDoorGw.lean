/- The walks of object's plain, slices.Contains of bytes, object's Name and written. -/
import Derived.Test.YtfbkkcigkpffiaaDoorGi
import Derived.Lib.OthersKept
import Derived.Lib.ConvBytes
import Derived.Test.YtfbkkcigkpffiaaDoorGq
namespace Go.Proofs.YtfbkkcigkpffiaaDoor.St
open Go Go.Lib Go.RowKit Go.ChangeMaps Go.Proofs.YtfbkkcigkpffiaaDoorW.PrintWords Go.Proofs.YtfbkkcigkpffiaaDoorW.PrintLast Go.Proofs.YtfbkkcigkpffiaaDoorW.PrintMore Go.Proofs.YtfbkkcigkpffiaaDoor.PStoreMany
set_option linter.unusedVariables false
set_option linter.unusedSimpArgs false
/-- No rune below 32, none 127. -/
def rnf (s : ByteArray) : Nat → Nat → Bool
  | 0, _ => true
  | g + 1, p => if p < s.size then if ((Utf8.decode s p).1 : Int) < 32 then false else if ((Utf8.decode s p).1 : Int) = 127 then false else rnf s g (p + (Utf8.decode s p).2) else true
def plainB (tb : Tb) (s : ByteArray) : Bool := vs tb s && rnf s (s.size + 1) 0
set_option maxRecDepth 100000 in
set_option maxHeartbeats 4000000 in
theorem plain_walk (tb : Tb) (s : ByteArray) (w : World) (hs : s.size ≤ 9223372036854775807) (hT : U8T tb w) :
    Calls Tryd.prog 109 #[.string s] w fun e w' => e = .returned (.bool (plainB tb s)) ∧ Below w.heap.size w w' := by
  have HV := Lib.hid (valid_walk tb s w hs hT)
  unfold plainB
  clear hT
  cases hv : vs tb s with
  | false =>
    rw [hv] at HV
    clear hv
    rw [Bool.false_and]
    go_enter Tryd.func109, Tryd.ntmps109
    go_wp2_with fail
    refine HV.out.mono ?_
    rintro e w1 ⟨rfl, hb⟩
    have HB := Lib.hid hb
    clear hb
    go_wp2_with fail
    go_ret
    exact ⟨rfl, HB.out⟩
  | true =>
    rw [hv] at HV
    clear hv
    rw [Bool.true_and]
    obtain ⟨R, hR⟩ : ∃ R, rnf s (s.size + 1) 0 = R := ⟨_, rfl⟩
    have HR := Lib.hid hR
    rw [hR]
    clear hR
    go_enter Tryd.func109, Tryd.ntmps109
    go_wp2_with fail
    refine HV.out.mono ?_
    rintro e w1 ⟨rfl, hb⟩
    have HB := Lib.hid hb
    clear hb
    go_wp2_with fail
    go_loopg [4] (s.size + 1) (fun gk v4 wr => ∃ pos : Nat, wr.heap[w1.heap.size]? = some (.stringIter s pos) ∧ Below w1.heap.size w1 wr ∧ rnf s gk pos = R ∧ s.size - pos < gk)
    case atStart => exact ⟨0, World.iter_heap w1 s 0, (Below.refl _ _).alloc (Nat.le_refl _) _, HR.out, by omega⟩
    case round =>
      obtain ⟨pos, hit, hbw, hrr, hg⟩ := hrel
      obtain ⟨g', rfl⟩ : ∃ g', gk = g' + 1 := ⟨gk - 1, by omega⟩
      have hsz : w1.heap.size < wr.heap.size := (Array.getElem?_eq_some_iff.1 hit).1
      unfold rnf at hrr
      by_cases hp : pos < s.size
      · rw [if_pos hp] at hrr
        have hnx := fun ty => Lib.run_next_any_at (P := Tryd.prog) wr w1.heap.size s pos ty hit hp
        obtain ⟨r, n, hD⟩ : ∃ r n, Utf8.decode s pos = (r, n) := ⟨_, _, rfl⟩
        have hit2 := Lib.iterAt_heap wr w1.heap.size s pos (pos + n) hit
        have hbw2 := Lib.below_iterAt hbw (k := w1.heap.size) (by omega) s (pos + n)
        have hn1 : 1 ≤ n := by have := decodeL_width (s.data.toList.drop pos); rw [decodeL_drop, hD] at this; exact this
        have hr1 : r ≤ 1114111 := by have := decodeL_rune (s.data.toList.drop pos); rw [decodeL_drop, hD] at this; exact this
        rw [hD] at hnx hrr
        dsimp only at hrr hnx
        have HIT2 := Lib.hid hit2
        have HBW2 := Lib.hid hbw2
        clear hit hit2 hbw2 hD hbw
        by_cases c32 : (r : Int) < 32
        · rw [if_pos c32] at hrr
          have HRR := Lib.hid hrr
          clear hrr
          go_wp2_with fail
          go_ret
          exact ⟨by rw [← HRR.out]; rfl, HB.out.trans (HBW2.out.mono HB.out.size)⟩
        · rw [if_neg c32] at hrr
          by_cases c127 : (r : Int) = 127
          · rw [if_pos c127] at hrr
            have HRR := Lib.hid hrr
            have hcb : ((r : Int) == 127) = true := by simpa using c127
            clear hrr c127
            go_wp2_with fail
            go_ret
            exact ⟨by rw [← HRR.out]; rfl, HB.out.trans (HBW2.out.mono HB.out.size)⟩
          · rw [if_neg c127] at hrr
            have HRR := Lib.hid hrr
            have hcb : ((r : Int) == 127) = false := by simpa using c127
            clear hrr c127
            go_wp2_with fail
            go_roundg g'
            case measure => omega
            case rel => exact ⟨pos + n, HIT2.out, HBW2.out, HRR.out, by omega⟩
      · rw [if_neg hp] at hrr
        have HRR := Lib.hid hrr
        have hnx : ∀ ty, (Instr.next (.pointer (some ⟨w1.heap.size, 0, none⟩)) true ty).run Tryd.prog wr = _ := fun ty => Lib.run_next_end_at wr w1.heap.size s pos ty hit hp
        have HBW := Lib.hid hbw
        clear hrr hbw hit
        go_wp2_with fail
        go_ret
        exact ⟨by rw [← HRR.out]; rfl, HB.out.trans (HBW.out.mono HB.out.size)⟩
set_option maxRecDepth 100000 in
set_option maxHeartbeats 4000000 in
theorem index_walk (l : List Int) (v : Int) (A : Option Addr) (c : Nat) (w : World) (hC : Kd.C kB w A l.length l) :
    Calls Tryd.prog 112 #[.slice A l.length c, .int .u8 v] w fun e w' => ∃ x : Int, e = .returned (.int .i64 x) ∧ (0 ≤ x ↔ v ∈ l) ∧ w' = w := by
  have HC := Lib.hid hC
  have hl : l.length ≤ 9223372036854775807 := hC.2.1
  obtain ⟨N, hN⟩ : ∃ N, l.length = N := ⟨_, rfl⟩
  have HN := Lib.hid hN
  rw [hN] at hl ⊢
  clear hC hN
  go_enter Tryd.func112, Tryd.ntmps112
  go_wp2_with fail
  go_loop [8] (fun v8 => ∃ i : Nat, i ≤ N ∧ v8 = .int .i64 i ∧ Hid (v ∉ l.take i)) (fun v8 => N - (RowKit.intOf v8).toNat)
  case atStart => exact ⟨0, Nat.zero_le _, rfl, Lib.hid (by simp)⟩
  case round =>
    obtain ⟨i, hi, rfl, hno⟩ := hrel
    by_cases hlt : i < N
    · have hlt' : (i : Int) < (N : Int) := by omega
      have hil : i < l.length := by rw [HN.out]; exact hlt
      obtain ⟨ad, rfl, hcell⟩ := HC.out.2.2 (by omega)
      obtain ⟨cs, _, hk, hc⟩ := hcell i _ (List.getElem?_eq_getElem hil)
      have hk' : cs = [Value.int .u8 l[i]] := hk
      subst hk'
      have e0 : w.cell? (ad.add i) = some (.int .u8 l[i]) := by
        have := hc 0 _ rfl
        rwa [show kB.sz = 1 from rfl, Nat.mul_one, Nat.add_zero] at this
      have HT := Lib.hid (show l.take (i + 1) = l.take i ++ [l[i]] from List.take_succ_eq_append_getElem hil)
      have HM := Lib.hid (show l[i] ∈ l from List.getElem_mem hil)
      obtain ⟨x, hx⟩ : ∃ x, l[i] = x := ⟨_, rfl⟩
      rw [hx] at e0 HT HM
      clear hx hcell hc hk
      by_cases hv : v = x
      · have hb : (v == x) = true := by simpa using hv
        have HV := Lib.hid hv
        clear hv
        go_wp2_with fail
        go_ret
        exact ⟨(i : Int), rfl, by rw [HV.out]; exact ⟨fun _ => HM.out, fun _ => by omega⟩, rfl⟩
      · have hb : (v == x) = false := by simpa using hv
        have HV := Lib.hid hv
        clear hv
        go_wp2_with fail
        go_round
        case rel => exact ⟨i + 1, by omega, by go_num, Lib.hid (by rw [HT.out]; intro h; rcases List.mem_append.1 h with h | h; exact hno.out h; exact HV.out (List.mem_singleton.1 h))⟩
        all_goals (simp only [RowKit.intOf]; omega)
    · obtain rfl : i = N := by omega
      have HF := Lib.hid (show l.take i = l from List.take_of_length_le (by rw [HN.out]; exact Nat.le_refl _))
      go_wp2_with fail
      go_ret
      exact ⟨-1, rfl, ⟨fun h => absurd h (by decide), fun h => absurd (by rw [HF.out]; exact h) hno.out⟩, rfl⟩
set_option maxRecDepth 100000 in
set_option maxHeartbeats 4000000 in
theorem contains_walk (l : List Int) (v : Int) (A : Option Addr) (c : Nat) (w : World) (hC : Kd.C kB w A l.length l) :
    Calls Tryd.prog 110 #[.slice A l.length c, .int .u8 v] w fun e w' => e = .returned (.bool (decide (v ∈ l))) ∧ w' = w := by
  have HI := Lib.hid (index_walk l v A c w hC)
  obtain ⟨N, hN⟩ : ∃ N, l.length = N := ⟨_, rfl⟩
  rw [hN] at HI ⊢
  obtain ⟨R, hR⟩ : ∃ R, decide (v ∈ l) = R := ⟨_, rfl⟩
  have HR := Lib.hid hR
  rw [hR]
  clear hC hN hR
  go_enter Tryd.func110, Tryd.ntmps110
  go_wp2_with fail
  refine HI.out.mono ?_
  rintro e w1 ⟨x, rfl, hx, rfl⟩
  have HX := Lib.hid hx
  clear hx
  by_cases h0 : 0 ≤ x
  · go_wp2_with fail
    go_ret
    exact ⟨by rw [← HR.out, decide_eq_true (HX.out.1 (by omega))]; rfl, rfl⟩
  · have hd : decide (0 ≤ x) = false := decide_eq_false h0
    go_wp2_with fail
    go_ret
    exact ⟨by rw [← HR.out, decide_eq_false (p := v ∈ l) (fun h => by have := HX.out.2 h; omega)]; rfl, rfl⟩
/-- A text as bytes in new memory. -/
theorem conv_str (s : ByteArray) (w : World) (hs : s.size ≤ 9223372036854775807) : ∃ c w', (convert 9 30 (.string s)).run Tryd.prog w = .ok (.slice (some ⟨w.heap.size, 0, none⟩) s.size c) w' ∧ Kd.C kB w' (some ⟨w.heap.size, 0, none⟩) s.size (intsB s.data.toList) ∧ Below w.heap.size w w' := by
  refine ⟨_, _, Go.Lib.run_convert_string_bytes (P := Tryd.prog) w 9 30 5 s Tryd.underlying9 Tryd.underlying30 Tryd.underlying5, ?_, ?_⟩
  · refine ⟨by unfold intsB; rw [List.length_map]; simp, hs, fun hp => ⟨_, rfl, fun j x hj => ?_⟩⟩
    have hjs : j < s.size := by
      have := (List.getElem?_eq_some_iff.1 hj).1
      unfold intsB at this
      simpa using this
    refine ⟨[b8 x], rfl, rfl, fun i u hu => ?_⟩
    have hi : i = 0 := by
      have := (List.getElem?_eq_some_iff.1 hu).1
      simpa using this
    subst hi
    cases hu
    have h := Go.Lib.bytesWorld_cell w 5 s j hjs
    unfold intsB at hj
    rw [List.getElem?_map, List.getElem?_eq_getElem (by simpa using hjs)] at hj
    cases hj
    rw [Addr.add_lit, show 0 + (j * kB.sz + 0) = j by show 0 + (j * 1 + 0) = j; omega, h]
    rw [List.getD_eq_getElem?_getD, List.getElem?_eq_getElem (by simpa using hjs)]
    rfl
  · refine ⟨rfl, ?_, rfl, by rw [Go.Lib.bytesWorld_size]; omega, fun j hj => Go.Lib.bytesWorld_at_old w 5 s j hj⟩
    simp [Go.Lib.bytesWorld, World.freeze]
/-- Whether an entry may be called so. -/
def nameB (tb : Tb) (s : ByteArray) : Bool :=
  decide (1 ≤ s.size) && (decide (s.size ≤ 255) && (plainB tb s && (!(s.toList == [46]) && (!(s.toList == [46, 46]) && !decide ((47 : Int) ∈ intsB s.data.toList)))))
set_option maxRecDepth 100000 in
set_option maxHeartbeats 4000000 in
theorem name_walk (tb : Tb) (s : ByteArray) (w : World) (hs : s.size ≤ 9223372036854775807) (hT : U8T tb w) :
    Calls Tryd.prog 108 #[.string s] w fun e w' => e = .returned (.bool (nameB tb s)) ∧ Below w.heap.size w w' := by
  have HP := Lib.hid (plain_walk tb s w hs hT)
  unfold nameB
  clear hT
  by_cases h1 : 1 ≤ s.size
  · have h1' : (1 : Int) ≤ (s.size : Int) := by omega
    rw [decide_eq_true h1, Bool.true_and]
    by_cases h2 : s.size ≤ 255
    · have h2' : (s.size : Int) ≤ 255 := by omega
      rw [decide_eq_true h2, Bool.true_and]
      cases hp : plainB tb s with
      | false =>
        rw [hp] at HP
        rw [Bool.false_and]
        clear hp
        go_enter Tryd.func108, Tryd.ntmps108
        go_wp2_with fail
        refine HP.out.mono ?_
        rintro e w1 ⟨rfl, hb⟩
        have HB := Lib.hid hb
        clear hb
        go_wp2_with fail
        go_ret
        exact ⟨rfl, HB.out⟩
      | true =>
        rw [hp] at HP
        rw [Bool.true_and]
        clear hp
        cases h3 : (s.toList == [46]) with
        | true =>
          rw [Bool.not_true, Bool.false_and]
          have h3b : (s.toList != [46]) = false := by rw [bne, h3]; rfl
          go_enter Tryd.func108, Tryd.ntmps108
          go_wp2_with fail
          refine HP.out.mono ?_
          rintro e w1 ⟨rfl, hb⟩
          have HB := Lib.hid hb
          clear hb
          go_wp2_with fail
          go_ret
          exact ⟨rfl, HB.out⟩
        | false =>
          rw [Bool.not_false, Bool.true_and]
          have h3b : (s.toList != [46]) = true := by rw [bne, h3]; rfl
          cases h4 : (s.toList == [46, 46]) with
          | true =>
            rw [Bool.not_true, Bool.false_and]
            have h4b : (s.toList != [46, 46]) = false := by rw [bne, h4]; rfl
            go_enter Tryd.func108, Tryd.ntmps108
            go_wp2_with fail
            refine HP.out.mono ?_
            rintro e w1 ⟨rfl, hb⟩
            have HB := Lib.hid hb
            clear hb
            go_wp2_with fail
            go_ret
            exact ⟨rfl, HB.out⟩
          | false =>
            rw [Bool.not_false, Bool.true_and]
            have h4b : (s.toList != [46, 46]) = true := by rw [bne, h4]; rfl
            obtain ⟨R, hR⟩ : ∃ R, decide ((47 : Int) ∈ intsB s.data.toList) = R := ⟨_, rfl⟩
            have HR := Lib.hid hR
            rw [hR]
            clear hR
            go_enter Tryd.func108, Tryd.ntmps108
            go_wp2_with fail
            refine HP.out.mono ?_
            rintro e w1 ⟨rfl, hb⟩
            have HB := Lib.hid hb
            clear hb
            obtain ⟨c2, w2, hcv, hC, hb2⟩ := conv_str s w1 hs
            have HB2 := Lib.hid (HB.out.trans (hb2.mono HB.out.size))
            have HCT := Lib.hid (show Calls Tryd.prog 110 #[.slice (some ⟨w1.heap.size, 0, none⟩) s.size c2, .int .u8 47] w2 fun e w' => e = .returned (.bool R) ∧ w' = w2 from by
              have h := contains_walk (intsB s.data.toList) 47 (some ⟨w1.heap.size, 0, none⟩) c2 w2 (by rw [show (intsB s.data.toList).length = s.size from by unfold intsB; simp]; exact hC)
              rw [show (intsB s.data.toList).length = s.size from by unfold intsB; simp, HR.out] at h
              exact h)
            clear hC hb2
            go_wp2_with fail
            refine HCT.out.mono ?_
            rintro e w3 ⟨rfl, rfl⟩
            go_wp2_with fail
            go_ret
            exact ⟨rfl, HB2.out⟩
    · have h2' : ¬ (s.size : Int) ≤ 255 := by omega
      rw [decide_eq_false h2, Bool.false_and]
      clear h2
      go_enter Tryd.func108, Tryd.ntmps108
      go_wp2_with fail
      go_ret
      exact ⟨rfl, Below.refl _ _⟩
  · have h1' : ¬ (1 : Int) ≤ (s.size : Int) := by omega
    rw [decide_eq_false h1, Bool.false_and]
    clear h1
    go_enter Tryd.func108, Tryd.ntmps108
    go_wp2_with fail
    go_ret
    exact ⟨rfl, Below.refl _ _⟩
/-- Whether who, when and a text may be. -/
def writtenB (tb : Tb) (who : ByteArray) (tm : Int) (tx : ByteArray) : Bool :=
  decide (who.size ≤ 255) && (plainB tb who && (decide (tm ≤ 1099511627776) && decide (tx.size ≤ 4096)))
set_option maxRecDepth 100000 in
set_option maxHeartbeats 4000000 in
theorem written_walk (tb : Tb) (who : ByteArray) (tm : Int) (tx : ByteArray) (w : World) (hs : who.size ≤ 9223372036854775807) (hT : U8T tb w) :
    Calls Tryd.prog 118 #[.string who, .int .u64 tm, .string tx] w fun e w' => e = .returned (.bool (writtenB tb who tm tx)) ∧ Below w.heap.size w w' := by
  have HP := Lib.hid (plain_walk tb who w hs hT)
  unfold writtenB
  clear hT
  by_cases h1 : who.size ≤ 255
  · have h1' : (who.size : Int) ≤ 255 := by omega
    rw [decide_eq_true h1, Bool.true_and]
    cases hp : plainB tb who with
    | false =>
      rw [hp] at HP
      rw [Bool.false_and]
      clear hp
      go_enter Tryd.func118, Tryd.ntmps118
      go_wp2_with fail
      refine HP.out.mono ?_
      rintro e w1 ⟨rfl, hb⟩
      have HB := Lib.hid hb
      clear hb
      go_wp2_with fail
      go_ret
      exact ⟨rfl, HB.out⟩
    | true =>
      rw [hp] at HP
      rw [Bool.true_and]
      clear hp
      by_cases h2 : tm ≤ 1099511627776
      · rw [decide_eq_true h2, Bool.true_and]
        by_cases h3 : tx.size ≤ 4096
        · have h3' : (tx.size : Int) ≤ 4096 := by omega
          rw [decide_eq_true h3]
          go_enter Tryd.func118, Tryd.ntmps118
          go_wp2_with fail
          refine HP.out.mono ?_
          rintro e w1 ⟨rfl, hb⟩
          have HB := Lib.hid hb
          clear hb
          go_wp2_with fail
          go_ret
          exact ⟨rfl, HB.out⟩
        · have h3' : ¬ (tx.size : Int) ≤ 4096 := by omega
          have h3d : decide ((tx.size : Int) ≤ 4096) = false := decide_eq_false h3'
          rw [decide_eq_false h3]
          clear h3
          go_enter Tryd.func118, Tryd.ntmps118
          go_wp2_with fail
          refine HP.out.mono ?_
          rintro e w1 ⟨rfl, hb⟩
          have HB := Lib.hid hb
          clear hb
          go_wp2_with fail
          go_ret
          exact ⟨rfl, HB.out⟩
      · rw [decide_eq_false h2, Bool.false_and]
        go_enter Tryd.func118, Tryd.ntmps118
        go_wp2_with fail
        refine HP.out.mono ?_
        rintro e w1 ⟨rfl, hb⟩
        have HB := Lib.hid hb
        clear hb
        go_wp2_with fail
        go_ret
        exact ⟨rfl, HB.out⟩
  · have h1' : ¬ (who.size : Int) ≤ 255 := by omega
    rw [decide_eq_false h1, Bool.false_and]
    clear h1
    go_enter Tryd.func118, Tryd.ntmps118
    go_wp2_with fail
    go_ret
    exact ⟨rfl, Below.refl _ _⟩
end Go.Proofs.YtfbkkcigkpffiaaDoor.St
