/- The walks of code's Reader at any bytes: next, fixed, U8, U64. -/
import Derived.Test.YtfbkkcigkpffiaaDoorGd
namespace Go.Proofs.YtfbkkcigkpffiaaDoor.St
open Go Go.Lib Go.RowKit Go.ChangeMaps Go.Proofs.YtfbkkcigkpffiaaDoorW.PrintWords Go.Proofs.YtfbkkcigkpffiaaDoorW.PrintLast Go.Proofs.YtfbkkcigkpffiaaDoorW.PrintMore Go.Proofs.YtfbkkcigkpffiaaDoor.PStoreMany
set_option linter.unusedVariables false
set_option linter.unusedSimpArgs false
/-- Where a reader stands, what it has met. -/
structure Rs where
  p : Nat
  m : Nat
/-- The next n bytes. -/
def nx (b : List Int) (s : Rs) (n : Nat) : List Int × Rs :=
  if s.m ≠ 0 then ([], s) else if b.length - s.p < n then ([], ⟨s.p, 1⟩) else ((b.drop s.p).take n, ⟨s.p + n, 0⟩)
/-- A reader in a state. -/
structure RdS (w : World) (k : Nat) (A : Option Addr) (c : Nat) (b : List Int) (s : Rs) : Prop where
  at_ : RdAt w k A c b s.p s.m
  le : s.p ≤ b.length
  m5 : s.m < 5
theorem RdS.below {w w' : World} {k : Nat} {A : Option Addr} {c : Nat} {b : List Int} {s : Rs} (h : RdS w k A c b s) (hb : Below w.heap.size w w') : RdS w' k A c b s := ⟨h.at_.below hb, h.le, h.m5⟩
theorem nx_le {b : List Int} {s : Rs} {n : Nat} (h : s.p ≤ b.length) : (nx b s n).2.p ≤ b.length := by
  unfold nx
  split
  · exact h
  · split
    · exact h
    · show s.p + n ≤ b.length
      omega
theorem nx_m5 {b : List Int} {s : Rs} {n : Nat} (h : s.m < 5) : (nx b s n).2.m < 5 := by
  unfold nx
  split
  · exact h
  · split
    · exact (by decide : (1 : Nat) < 5)
    · exact (by decide : (0 : Nat) < 5)
theorem nx_len {b : List Int} {s : Rs} {n : Nat} : (nx b s n).1.length ≤ n := by
  unfold nx
  split
  · exact Nat.zero_le _
  · split
    · exact Nat.zero_le _
    · rw [List.length_take]; exact Nat.min_le_left _ _
theorem nx_sub {b : List Int} {s : Rs} {n : Nat} : ∀ x ∈ (nx b s n).1, x ∈ b := by
  unfold nx
  split
  · intro x hx; cases hx
  · split
    · intro x hx; cases hx
    · intro x hx
      exact List.mem_of_mem_drop (List.mem_of_mem_take hx)
set_option maxRecDepth 100000 in
set_option maxHeartbeats 4000000 in
theorem stop_walk (k : Nat) (A : Option Addr) (c : Nat) (b : List Int) (p m p' m' : Nat) (w : World) (h : RdAt w k A c b p m) :
    Calls Tryd.prog 71 #[.pointer (some ⟨k, 0, none⟩), .int .i64 p', .int .i64 m'] w fun e w' => e = .returned (.tuple #[]) ∧ RdAt w' k A c b p' m' ∧ But k w w' := by
  have HH := Lib.hid h
  have c1 : w.cell? ⟨k, 1, none⟩ = some (.int .i64 p) := h.blk.cell 1
  have c2 : w.cell? ⟨k, 2, none⟩ = some (.int .i64 m) := h.blk.cell 2
  have f1 := h.blk.frozen 1
  have f2 := h.blk.frozen 2
  clear h
  go_enter Tryd.func71, Tryd.ntmps71
  go_wp2_with fail
  have hb : But k w ((w.setCell ⟨k, 1, none⟩ (.int .i64 p')).setCell ⟨k, 2, none⟩ (.int .i64 m')) := ((But.refl k w).set 1 _).set 2 _
  have hk := (HH.out.blk.set 1 (.int .i64 p')).set 2 (.int .i64 m')
  have HB := Lib.hid hb
  have HK := Lib.hid hk
  clear hb hk
  go_end0
  exact ⟨rfl, ⟨HK.out, HH.out.cap, HH.out.src.but HB.out⟩, HB.out⟩
theorem Src.nil (k : Nat) (w : World) (A : Option Addr) : Src k w A [] := ⟨by decide, fun h => absurd h (by decide)⟩
set_option maxRecDepth 100000 in
set_option maxHeartbeats 4000000 in
theorem next_any (k : Nat) (A : Option Addr) (c : Nat) (b : List Int) (s : Rs) (n : Nat) (w : World) (h : RdS w k A c b s) (hl : b.length ≤ 1000000000) (hn : n ≤ 1000000000000) :
    Calls Tryd.prog 72 #[.pointer (some ⟨k, 0, none⟩), .int .i64 n] w fun e w' => ∃ A' c', e = .returned (.slice A' (nx b s n).1.length c') ∧ (nx b s n).1.length ≤ c' ∧ Src k w' A' (nx b s n).1 ∧ RdS w' k A c b (nx b s n).2 ∧ But k w w' := by
  obtain ⟨p, m⟩ := s
  have hle : p ≤ b.length := h.le
  have hm5 : m < 5 := h.m5
  have hat : RdAt w k A c b p m := h.at_
  by_cases hm : m = 0
  · subst hm
    by_cases hnl : b.length - p < n
    · have HE := Lib.hid (show nx b ⟨p, 0⟩ n = ([], ⟨p, 1⟩) from by unfold nx; rw [if_neg (by simp), if_pos hnl])
      have HL := Lib.hid (left_walk k A c b p 0 w hat hle)
      have HS := Lib.hid (fun W (hb : Below w.heap.size w W) => stop_walk k A c b p 0 p 1 W (hat.below hb))
      have HC1 := Lib.hid (fun W (hb : Below w.heap.size w W) => (show W.cell? ⟨k, 1, none⟩ = some (.int .i64 p) from (hat.below hb).blk.cell 1))
      have c2 : w.cell? ⟨k, 2, none⟩ = some (.int .i64 0) := hat.blk.cell 2
      have HLE := Lib.hid hle
      obtain ⟨N, hN⟩ : ∃ N, b.length = N := ⟨_, rfl⟩
      rw [hN] at HL hnl hl hle
      obtain ⟨d, hd⟩ : ∃ d, N - p = d := ⟨_, rfl⟩
      rw [hd] at HL hnl
      have hnl' : (d : Int) < (n : Int) := by omega
      clear h hat hN hd hle
      go_enter Tryd.func72, Tryd.ntmps72
      go_wp2_with fail
      refine HL.out.mono ?_
      rintro e w1 ⟨rfl, hb⟩
      have HB := Lib.hid hb
      have c1 := HC1.out w1 hb
      clear hb c2
      go_wp2_with fail
      refine (HS.out w1 HB.out).mono ?_
      rintro e w2 ⟨rfl, hr, hb2⟩
      have HR := Lib.hid hr
      have HB2 := Lib.hid ((But.of_below HB.out).trans hb2)
      clear hr hb2
      go_wp2_with fail
      go_ret
      rw [HE.out]
      exact ⟨none, 0, rfl, Nat.le_refl _, Src.nil _ _ _, ⟨HR.out, HLE.out, (by decide : (1 : Nat) < 5)⟩, HB2.out⟩
    · have HE := Lib.hid (show nx b ⟨p, 0⟩ n = ((b.drop p).take n, ⟨p + n, 0⟩) from by unfold nx; rw [if_neg (by simp), if_neg hnl])
      have hlen : ((b.drop p).take n).length = n := by rw [List.length_take, List.length_drop]; omega
      refine (next_walk k A c b p n w hat (by omega) hl).mono ?_
      rintro e w' ⟨A', c', he, h1, h2, h3, h4⟩
      rw [HE.out, hlen]
      exact ⟨A', c', he, h1, h2, ⟨h3, by show p + n ≤ b.length; omega, (by decide : (0 : Nat) < 5)⟩, h4⟩
  · have HE := Lib.hid (show nx b ⟨p, m⟩ n = ([], ⟨p, m⟩) from by unfold nx; rw [if_pos hm])
    have c2 : w.cell? ⟨k, 2, none⟩ = some (.int .i64 m) := hat.blk.cell 2
    have hm1 : ((m : Int) != 0) = true := by simp; omega
    have hm2 : ((m : Int) == 0) = false := by simp; omega
    have HH := Lib.hid h
    clear h hat hm
    go_enter Tryd.func72, Tryd.ntmps72
    go_wp2_with fail
    go_ret
    rw [HE.out]
    exact ⟨none, 0, rfl, Nat.le_refl _, Src.nil _ _ _, HH.out, But.refl _ _⟩
/-- A number, byte by byte. -/
def fold8 (l : List Int) : Int := l.foldl (fun n c => Go.bits .or .u64 (IntKind.u64.wrap (n * 256)) (IntKind.u64.wrap c)) 0
def fx (b : List Int) (s : Rs) (n : Nat) : Int × Rs := (fold8 (nx b s n).1, (nx b s n).2)
theorem fold8_snoc (l : List Int) (c : Int) : fold8 (l ++ [c]) = Go.bits .or .u64 (IntKind.u64.wrap (fold8 l * 256)) (IntKind.u64.wrap c) := by
  unfold fold8
  rw [List.foldl_append]
  rfl
set_option maxRecDepth 100000 in
set_option maxHeartbeats 4000000 in
theorem fixed_any (k : Nat) (A : Option Addr) (c : Nat) (b : List Int) (s : Rs) (n : Nat) (w : World) (h : RdS w k A c b s) (hl : b.length ≤ 1000000000) (hn : n ≤ 1000000000000) :
    Calls Tryd.prog 70 #[.pointer (some ⟨k, 0, none⟩), .int .i64 n] w fun e w' => e = .returned (.int .u64 (fx b s n).1) ∧ RdS w' k A c b (fx b s n).2 ∧ But k w w' := by
  have HNX := Lib.hid (next_any k A c b s n w h hl hn)
  unfold fx
  obtain ⟨l, hle⟩ : ∃ l, (nx b s n).1 = l := ⟨_, rfl⟩
  obtain ⟨t, ht⟩ : ∃ t, (nx b s n).2 = t := ⟨_, rfl⟩
  have hll : l.length ≤ n := hle ▸ nx_len
  rw [hle, ht] at HNX
  rw [hle, ht]
  clear h hle ht
  go_enter Tryd.func70, Tryd.ntmps70
  go_wp2_with fail
  refine HNX.out.mono ?_
  rintro e w1 ⟨A1, c1, rfl, hc1, hs, hr, hb⟩
  have HS := Lib.hid hs
  have HR := Lib.hid hr
  have HB := Lib.hid hb
  obtain ⟨N, hN⟩ : ∃ N, l.length = N := ⟨_, rfl⟩
  have HN := Lib.hid hN
  rw [hN] at hll ⊢
  clear hs hr hb hc1 hN HNX
  go_wp2_with fail
  go_loopw [5, 12] (fun v5 v12 wr => ∃ i : Nat, i ≤ N ∧ v12 = .int .i64 i ∧ v5 = .int .u64 (fold8 (l.take i)) ∧ wr = w1) (fun _ v12 _ => N - (RowKit.intOf v12).toNat)
  case atStart => exact ⟨0, Nat.zero_le _, rfl, rfl, rfl⟩
  case round =>
    obtain ⟨i, hi, rfl, rfl, rfl⟩ := hrel
    by_cases hlt : i < N
    · have hlt' : (i : Int) < (N : Int) := by omega
      obtain ⟨ad, rfl, _, hcell⟩ := HS.out.2 (by rw [HN.out]; omega)
      have hil : i < l.length := by rw [HN.out]; exact hlt
      have e0 := hcell i _ (List.getElem?_eq_getElem hil)
      have HT := Lib.hid (show fold8 (l.take (i + 1)) = _ from by rw [List.take_succ_eq_append_getElem hil, fold8_snoc])
      obtain ⟨x, hx⟩ : ∃ x, l[i] = x := ⟨_, rfl⟩
      obtain ⟨y, hy⟩ : ∃ y, fold8 (l.take i) = y := ⟨_, rfl⟩
      rw [hx] at e0
      rw [hx, hy] at HT
      rw [hy]
      clear hx hy hcell
      go_wp2_with fail
      go_roundw
      case rel => exact ⟨i + 1, hlt, by go_num, by rw [HT.out], trivial⟩
      all_goals (simp only [RowKit.intOf]; omega)
    · obtain rfl : i = N := by omega
      have HF := Lib.hid (show l.take i = l from List.take_of_length_le (by rw [HN.out]; exact Nat.le_refl _))
      go_wp2_with fail
      go_ret
      rw [HF.out]
      exact ⟨rfl, HR.out, HB.out⟩
/-- A byte, a number of eight bytes. -/
def u8r (b : List Int) (s : Rs) : Int × Rs := (IntKind.u8.wrap (fx b s 1).1, (fx b s 1).2)
set_option maxRecDepth 100000 in
set_option maxHeartbeats 4000000 in
theorem u8_any (k : Nat) (A : Option Addr) (c : Nat) (b : List Int) (s : Rs) (w : World) (h : RdS w k A c b s) (hl : b.length ≤ 1000000000) :
    Calls Tryd.prog 50 #[.pointer (some ⟨k, 0, none⟩)] w fun e w' => e = .returned (.int .u8 (u8r b s).1) ∧ RdS w' k A c b (u8r b s).2 ∧ But k w w' := by
  have HF := Lib.hid (fixed_any k A c b s 1 w h hl (by decide))
  unfold u8r
  obtain ⟨x, hx⟩ : ∃ x, (fx b s 1).1 = x := ⟨_, rfl⟩
  obtain ⟨t, ht⟩ : ∃ t, (fx b s 1).2 = t := ⟨_, rfl⟩
  rw [hx, ht] at HF
  rw [hx, ht]
  clear h hx ht
  go_enter Tryd.func50, Tryd.ntmps50
  go_wp2_with fail
  refine HF.out.mono ?_
  rintro e w1 ⟨rfl, hr, hb⟩
  have HR := Lib.hid hr
  have HB := Lib.hid hb
  clear hr hb
  go_wp2_with fail
  go_ret
  exact ⟨rfl, HR.out, HB.out⟩
set_option maxRecDepth 100000 in
set_option maxHeartbeats 4000000 in
theorem u64_any (k : Nat) (A : Option Addr) (c : Nat) (b : List Int) (s : Rs) (w : World) (h : RdS w k A c b s) (hl : b.length ≤ 1000000000) :
    Calls Tryd.prog 77 #[.pointer (some ⟨k, 0, none⟩)] w fun e w' => e = .returned (.int .u64 (fx b s 8).1) ∧ RdS w' k A c b (fx b s 8).2 ∧ But k w w' := by
  have HF := Lib.hid (fixed_any k A c b s 8 w h hl (by decide))
  obtain ⟨x, hx⟩ : ∃ x, (fx b s 8).1 = x := ⟨_, rfl⟩
  obtain ⟨t, ht⟩ : ∃ t, (fx b s 8).2 = t := ⟨_, rfl⟩
  rw [hx, ht] at HF
  rw [hx, ht]
  clear h hx ht
  go_enter Tryd.func77, Tryd.ntmps77
  go_wp2_with fail
  refine HF.out.mono ?_
  rintro e w1 ⟨rfl, hr, hb⟩
  have HR := Lib.hid hr
  have HB := Lib.hid hb
  clear hr hb
  go_wp2_with fail
  go_ret
  exact ⟨rfl, HR.out, HB.out⟩
end Go.Proofs.YtfbkkcigkpffiaaDoor.St

namespace Go.Proofs.YtfbkkcigkpffiaaDoor.St
open Go Go.Lib Go.RowKit Go.ChangeMaps Go.Proofs.YtfbkkcigkpffiaaDoorW.PrintWords Go.Proofs.YtfbkkcigkpffiaaDoorW.PrintLast Go.Proofs.YtfbkkcigkpffiaaDoorW.PrintMore Go.Proofs.YtfbkkcigkpffiaaDoor.PStoreMany
set_option linter.unusedVariables false
set_option linter.unusedSimpArgs false
/-- One more group of seven bits. -/
def grp (n c : Int) (i : Nat) : Int := Go.bits .or .u64 n (IntKind.u64.wrap (IntKind.u64.wrap (Go.bits .and .u8 c 127) * 2 ^ (7 * i)))
/-- What Var reads out of the next bytes: the number, how far it goes, what it meets. -/
def vgo (most : Int) (L : Nat) : List Int → Nat → Int → Int × Nat × Nat
  | [], _, _ => (0, 0, if L < 10 then 1 else 2)
  | c :: r, i, n =>
    if i = 9 ∧ 1 < c then (0, 0, if L < 10 then 1 else 2)
    else if Go.bits .and .u8 c 128 ≠ 0 then vgo most L r (i + 1) (grp n c i)
    else if c = 0 ∧ 0 < i then (0, 0, 2)
    else if most < grp n c i then (0, 0, 3)
    else (grp n c i, i + 1, 0)
def vr (b : List Int) (s : Rs) (most : Int) : Int × Rs :=
  if s.m ≠ 0 then (0, s) else
    let look := (b.drop s.p).take 10
    let r := vgo most look.length look 0 0
    (r.1, ⟨s.p + r.2.1, r.2.2⟩)
set_option maxRecDepth 100000 in
set_option maxHeartbeats 4000000 in
theorem var_zero (k : Nat) (A : Option Addr) (c : Nat) (b : List Int) (p : Nat) (most : Int) (w : World) (h : RdS w k A c b ⟨p, 0⟩) (hl : b.length ≤ 1000000000) (hby : ∀ y ∈ b, Byte y) :
    Calls Tryd.prog 73 #[.pointer (some ⟨k, 0, none⟩), .int .u64 most] w fun e w' => e = .returned (.int .u64 (vr b ⟨p, 0⟩ most).1) ∧ RdS w' k A c b (vr b ⟨p, 0⟩ most).2 ∧ But k w w' := by
  have hle : p ≤ b.length := h.le
  have hat : RdAt w k A c b p 0 := h.at_
  have hcap := hat.cap
  have c2 : w.cell? ⟨k, 2, none⟩ = some (.int .i64 0) := hat.blk.cell 2
  have r0 : ∀ q : Cls w, q.at.cell? ⟨k, 0, none⟩ = some (.slice A b.length c) := fun q => q.cell (hat.blk.cell 0)
  have r1 : ∀ q : Cls w, q.at.cell? ⟨k, 1, none⟩ = some (.int .i64 p) := fun q => q.cell (hat.blk.cell 1)
  have HL := Lib.hid (fun W (hb : Below w.heap.size w W) => left_walk k A c b p 0 W (hat.below hb) hle)
  have HAT := Lib.hid hat
  have HLK := Lib.hid (show ((b.drop p).take 10).length = min 10 (b.length - p) from by rw [List.length_take, List.length_drop])
  have HBY := Lib.hid (show ∀ y ∈ (b.drop p).take 10, Byte y from fun y hy => hby y (List.mem_of_mem_drop (List.mem_of_mem_take hy)))
  have HSR := Lib.hid (fun W (hb : Below w.heap.size w W) => ((hat.below hb).src.drop p c hcap).take 10)
  have HV := Lib.hid (show vr b ⟨p, 0⟩ most = ((vgo most ((b.drop p).take 10).length ((b.drop p).take 10) 0 0).1, ⟨p + (vgo most ((b.drop p).take 10).length ((b.drop p).take 10) 0 0).2.1, (vgo most ((b.drop p).take 10).length ((b.drop p).take 10) 0 0).2.2⟩) from by
    unfold vr
    rw [if_neg (by simp)])
  obtain ⟨N, hN⟩ : ∃ N, b.length = N := ⟨_, rfl⟩
  have HN := Lib.hid hN
  obtain ⟨look, hlook⟩ : ∃ look, (b.drop p).take 10 = look := ⟨_, rfl⟩
  rw [hlook] at HLK HSR HV HBY
  rw [hN] at HL hl hle hcap r0 HLK
  obtain ⟨d, hd⟩ : ∃ d, N - p = d := ⟨_, rfl⟩
  rw [hd] at HL HLK
  obtain ⟨L, hL⟩ : ∃ L, min 10 d = L := ⟨_, rfl⟩
  rw [hL] at HLK
  rw [HLK.out] at HV
  rw [HV.out]
  obtain ⟨R, hR⟩ : ∃ R, vgo most L look 0 0 = R := ⟨_, rfl⟩
  rw [hR]
  have HR0 := Lib.hid hR
  clear hR
  have hif : (if (d : Int) < 10 then (d : Int) else 10) = (L : Int) := by
    split <;> omega
  obtain ⟨s, hs⟩ : ∃ s, p + L = s := ⟨_, rfl⟩
  obtain ⟨c1, hc1⟩ : ∃ c1, c - p = c1 := ⟨_, rfl⟩
  obtain ⟨A1, hA1⟩ : ∃ A1, (if c = p then A else A.map (·.add p)) = A1 := ⟨_, rfl⟩
  obtain ⟨i5, hi5, _, hs5, _⟩ := info_parts info5
  have hsl := cut_mid (P := Tryd.prog) 30 5 .i64 .i64 Tryd.underlying30 hi5 1 hs5 A N c (p : Int) (s : Int) (by omega) (by omega) (by omega) hcap
  rw [Int.toNat_natCast, Int.toNat_natCast, show s - p = L by omega, hc1] at hsl
  simp only [Nat.mul_one] at hsl
  rw [hA1] at hsl HSR
  have hw : IntKind.i64.wrap ((p : Int) + (L : Int)) = (s : Int) := by rw [IntWalk.i64_in _ (by omega)]; omega
  have hw2 : (p : Int) + (L : Int) = (s : Int) := by omega
  have hL10 : L ≤ 10 := by omega
  have hpl : p + L ≤ N := by omega
  have hp1 : (p : Int) ≤ 1000000000 := by omega
  clear h hat hN hlook hd hL hi5 hs5 hA1 hc1 hs
  go_enter Tryd.func73, Tryd.ntmps73
  go_upto_region 4 with fail
  clear c2
  refine wp_region_cls (by kernel_rfl) (by kernel_rfl) ?_
  repeat (first | go_big_quiet_skip | go_big_quiet_step (refine cls_call (HL.out _ (Cls.below _))))
  refine wpQuiet_nil ?_
  rintro wy ⟨q, rfl⟩
  have HBQ := Lib.hid q.below
  obtain ⟨w1, hw1⟩ : ∃ w1, q.at = w1 := ⟨_, rfl⟩
  rw [hw1] at HBQ ⊢
  have HAT1 := Lib.hid (HAT.out.below HBQ.out)
  have HSR1 := Lib.hid (HSR.out w1 HBQ.out)
  clear hw1 q r0 r1 hsl hw hw2 hif
  have HLE := Lib.hid (show p ≤ b.length from by rw [HN.out]; exact hle)
  have c1' : w1.cell? ⟨k, 1, none⟩ = some (.int .i64 p) := HAT1.out.blk.cell 1
  have f1' := HAT1.out.blk.frozen 1
  clear hle
  go_wp2_with fail
  go_loopw [5, 33] (fun v5 v33 wr => ∃ (i : Nat) (n : Int), i ≤ L ∧ v33 = .int .i64 i ∧ v5 = .int .u64 n ∧ wr = w1 ∧ vgo most L (look.drop i) i n = R) (fun _ v33 _ => L - (RowKit.intOf v33).toNat)
  case atStart => exact ⟨0, 0, Nat.zero_le _, rfl, rfl, rfl, HR0.out⟩
  case round =>
    obtain ⟨i, n, hi, rfl, rfl, rfl, hrr⟩ := hrel
    obtain ⟨w1, rfl⟩ : ∃ w1, w1 = wr := ⟨_, rfl⟩
    by_cases hlt : i < L
    · have hlt' : (i : Int) < (L : Int) := by omega
      have hi0 : (0 : Int) ≤ (i : Int) := by omega
      obtain ⟨ad, rfl, _, hcell⟩ := HSR1.out.2 (by rw [HLK.out]; omega)
      have hil : i < look.length := by rw [HLK.out]; exact hlt
      have e0 := hcell i _ (List.getElem?_eq_getElem hil)
      have hby0 := HBY.out _ (List.getElem_mem hil)
      rw [List.drop_eq_getElem_cons hil] at hrr
      obtain ⟨x, hx⟩ : ∃ x, look[i] = x := ⟨_, rfl⟩
      rw [hx] at e0 hrr hby0
      have hx0 : 0 ≤ x := hby0.1
      have hx1 : x < 256 := by have := hby0.2; omega
      unfold vgo at hrr
      clear hx hcell hby0 hil
      by_cases h9 : i = 9 ∧ 1 < x
      · rw [if_pos h9] at hrr
        have h91 : ((i : Int) == 9) = true := by simpa using (by omega : (i : Int) = 9)
        have h92 : (1 : Int) < x := h9.2
        have hLl : ¬ (L : Int) < 10 := by omega
        rw [if_neg (by omega)] at hrr
        have HR := Lib.hid hrr.symm
        clear hrr h9
        go_wp2_with fail
        refine (stop_walk k A c b p 0 p 2 w1 HAT1.out).mono ?_
        rintro e w2 ⟨rfl, hr, hb⟩
        have HR2 := Lib.hid hr
        have HB2 := Lib.hid ((But.of_below HBQ.out).trans hb)
        clear hr hb
        go_wp2_with fail
        go_ret
        rw [HR.out]
        exact ⟨rfl, ⟨HR2.out, HLE.out, (by decide : (2 : Nat) < 5)⟩, HB2.out⟩
      · rw [if_neg h9] at hrr
        have h9' : ((i : Int) == 9) = false ∨ (((i : Int) == 9) = true ∧ ¬ (1 : Int) < x) := by
          by_cases hi9 : i = 9
          · exact .inr ⟨by simpa using (by omega : (i : Int) = 9), fun h => h9 ⟨hi9, h⟩⟩
          · exact .inl (by simpa using (by omega : ¬ (i : Int) = 9))
        clear h9
        rcases h9' with h91 | ⟨h91, h92⟩
        · have hm7 : IntKind.i64.wrap (7 * (i : Int)) = 7 * (i : Int) := by rw [IntWalk.i64_in _ (by omega)]
          by_cases hc : Go.bits .and .u8 x 128 = 0
          · have hcb : (Go.bits .and .u8 x 128 != 0) = false := by simpa using hc
            rw [if_neg (by simpa using hc)] at hrr
            clear hc
            by_cases hz : x = 0 ∧ 0 < i
            · rw [if_pos hz] at hrr
              have HR := Lib.hid hrr.symm
              have hz1 : (x == 0) = true := by simpa using hz.1
              have hz2 : (0 : Int) < (i : Int) := by have := hz.2; omega
              clear hrr hz
              go_wp2_with fail
              refine (stop_walk k A c b p 0 p 2 w1 HAT1.out).mono ?_
              rintro e w2 ⟨rfl, hr, hb⟩
              have HR2 := Lib.hid hr
              have HB2 := Lib.hid ((But.of_below HBQ.out).trans hb)
              clear hr hb
              go_wp2_with fail
              go_ret
              rw [HR.out]
              exact ⟨rfl, ⟨HR2.out, HLE.out, (by decide : (2 : Nat) < 5)⟩, HB2.out⟩
            · rw [if_neg hz] at hrr
              have hzz : (x == 0) = false ∨ ((x == 0) = true ∧ ¬ (0 : Int) < (i : Int)) := by
                by_cases hx00 : x = 0
                · exact .inr ⟨by simpa using hx00, fun h => hz ⟨hx00, by omega⟩⟩
                · exact .inl (by simpa using hx00)
              clear hz
              obtain ⟨g, hg⟩ : ∃ g, grp n x i = g := ⟨_, rfl⟩
              rw [hg] at hrr
              have hg' := hg
              unfold grp at hg'
              clear hg
              by_cases hmo : most < g
              · rw [if_pos hmo] at hrr
                have HR := Lib.hid hrr.symm
                clear hrr
                rcases hzz with hz1 | ⟨hz1, hz2⟩
                · go_wp2_with fail
                  refine (stop_walk k A c b p 0 p 3 w1 HAT1.out).mono ?_
                  rintro e w2 ⟨rfl, hr, hb⟩
                  have HR2 := Lib.hid hr
                  have HB2 := Lib.hid ((But.of_below HBQ.out).trans hb)
                  clear hr hb
                  go_wp2_with fail
                  go_ret
                  rw [HR.out]
                  exact ⟨rfl, ⟨HR2.out, HLE.out, (by decide : (3 : Nat) < 5)⟩, HB2.out⟩
                · go_wp2_with fail
                  refine (stop_walk k A c b p 0 p 3 w1 HAT1.out).mono ?_
                  rintro e w2 ⟨rfl, hr, hb⟩
                  have HR2 := Lib.hid hr
                  have HB2 := Lib.hid ((But.of_below HBQ.out).trans hb)
                  clear hr hb
                  go_wp2_with fail
                  go_ret
                  rw [HR.out]
                  exact ⟨rfl, ⟨HR2.out, HLE.out, (by decide : (3 : Nat) < 5)⟩, HB2.out⟩
              · rw [if_neg hmo] at hrr
                have HR := Lib.hid hrr.symm
                clear hrr
                have hpi : IntKind.i64.wrap ((p : Int) + ((i : Int) + 1)) = ((p + (i + 1) : Nat) : Int) := by rw [IntWalk.i64_in _ (by omega)]; omega
                rcases hzz with hz1 | ⟨hz1, hz2⟩
                · go_wp2_with fail
                  go_ret
                  rw [HR.out]
                  have hpe : (p : Int) + ((i : Int) + 1) = ((p + (i + 1) : Nat) : Int) := by omega
                  rw [hpe]
                  exact ⟨rfl, ⟨⟨HAT1.out.blk.set 1 _, HAT1.out.cap, HAT1.out.src.but ((But.refl k w1).set 1 _)⟩, (by rw [HN.out]; show p + (i + 1) ≤ N; omega), (by decide : (0 : Nat) < 5)⟩, (But.of_below HBQ.out).set 1 _⟩
                · go_wp2_with fail
                  go_ret
                  rw [HR.out]
                  have hpe : (p : Int) + ((i : Int) + 1) = ((p + (i + 1) : Nat) : Int) := by omega
                  rw [hpe]
                  exact ⟨rfl, ⟨⟨HAT1.out.blk.set 1 _, HAT1.out.cap, HAT1.out.src.but ((But.refl k w1).set 1 _)⟩, (by rw [HN.out]; show p + (i + 1) ≤ N; omega), (by decide : (0 : Nat) < 5)⟩, (But.of_below HBQ.out).set 1 _⟩
          · have hcb : (Go.bits .and .u8 x 128 != 0) = true := by simpa using hc
            rw [if_pos hc] at hrr
            have HR := Lib.hid hrr
            clear hrr hc
            go_wp2_with fail
            go_roundw
            case rel => exact ⟨i + 1, _, by omega, by go_num, rfl, trivial, HR.out⟩
            all_goals (simp only [RowKit.intOf]; omega)
        · have hm7 : IntKind.i64.wrap (7 * (i : Int)) = 7 * (i : Int) := by rw [IntWalk.i64_in _ (by omega)]
          by_cases hc : Go.bits .and .u8 x 128 = 0
          · have hcb : (Go.bits .and .u8 x 128 != 0) = false := by simpa using hc
            rw [if_neg (by simpa using hc)] at hrr
            clear hc
            by_cases hz : x = 0 ∧ 0 < i
            · rw [if_pos hz] at hrr
              have HR := Lib.hid hrr.symm
              have hz1 : (x == 0) = true := by simpa using hz.1
              have hz2 : (0 : Int) < (i : Int) := by have := hz.2; omega
              clear hrr hz
              go_wp2_with fail
              refine (stop_walk k A c b p 0 p 2 w1 HAT1.out).mono ?_
              rintro e w2 ⟨rfl, hr, hb⟩
              have HR2 := Lib.hid hr
              have HB2 := Lib.hid ((But.of_below HBQ.out).trans hb)
              clear hr hb
              go_wp2_with fail
              go_ret
              rw [HR.out]
              exact ⟨rfl, ⟨HR2.out, HLE.out, (by decide : (2 : Nat) < 5)⟩, HB2.out⟩
            · rw [if_neg hz] at hrr
              have hzz : (x == 0) = false ∨ ((x == 0) = true ∧ ¬ (0 : Int) < (i : Int)) := by
                by_cases hx00 : x = 0
                · exact .inr ⟨by simpa using hx00, fun h => hz ⟨hx00, by omega⟩⟩
                · exact .inl (by simpa using hx00)
              clear hz
              obtain ⟨g, hg⟩ : ∃ g, grp n x i = g := ⟨_, rfl⟩
              rw [hg] at hrr
              have hg' := hg
              unfold grp at hg'
              clear hg
              by_cases hmo : most < g
              · rw [if_pos hmo] at hrr
                have HR := Lib.hid hrr.symm
                clear hrr
                rcases hzz with hz1 | ⟨hz1, hz2⟩
                · go_wp2_with fail
                  refine (stop_walk k A c b p 0 p 3 w1 HAT1.out).mono ?_
                  rintro e w2 ⟨rfl, hr, hb⟩
                  have HR2 := Lib.hid hr
                  have HB2 := Lib.hid ((But.of_below HBQ.out).trans hb)
                  clear hr hb
                  go_wp2_with fail
                  go_ret
                  rw [HR.out]
                  exact ⟨rfl, ⟨HR2.out, HLE.out, (by decide : (3 : Nat) < 5)⟩, HB2.out⟩
                · go_wp2_with fail
                  refine (stop_walk k A c b p 0 p 3 w1 HAT1.out).mono ?_
                  rintro e w2 ⟨rfl, hr, hb⟩
                  have HR2 := Lib.hid hr
                  have HB2 := Lib.hid ((But.of_below HBQ.out).trans hb)
                  clear hr hb
                  go_wp2_with fail
                  go_ret
                  rw [HR.out]
                  exact ⟨rfl, ⟨HR2.out, HLE.out, (by decide : (3 : Nat) < 5)⟩, HB2.out⟩
              · rw [if_neg hmo] at hrr
                have HR := Lib.hid hrr.symm
                clear hrr
                have hpi : IntKind.i64.wrap ((p : Int) + ((i : Int) + 1)) = ((p + (i + 1) : Nat) : Int) := by rw [IntWalk.i64_in _ (by omega)]; omega
                rcases hzz with hz1 | ⟨hz1, hz2⟩
                · go_wp2_with fail
                  go_ret
                  rw [HR.out]
                  have hpe : (p : Int) + ((i : Int) + 1) = ((p + (i + 1) : Nat) : Int) := by omega
                  rw [hpe]
                  exact ⟨rfl, ⟨⟨HAT1.out.blk.set 1 _, HAT1.out.cap, HAT1.out.src.but ((But.refl k w1).set 1 _)⟩, (by rw [HN.out]; show p + (i + 1) ≤ N; omega), (by decide : (0 : Nat) < 5)⟩, (But.of_below HBQ.out).set 1 _⟩
                · go_wp2_with fail
                  go_ret
                  rw [HR.out]
                  have hpe : (p : Int) + ((i : Int) + 1) = ((p + (i + 1) : Nat) : Int) := by omega
                  rw [hpe]
                  exact ⟨rfl, ⟨⟨HAT1.out.blk.set 1 _, HAT1.out.cap, HAT1.out.src.but ((But.refl k w1).set 1 _)⟩, (by rw [HN.out]; show p + (i + 1) ≤ N; omega), (by decide : (0 : Nat) < 5)⟩, (But.of_below HBQ.out).set 1 _⟩
          · have hcb : (Go.bits .and .u8 x 128 != 0) = true := by simpa using hc
            rw [if_pos hc] at hrr
            have HR := Lib.hid hrr
            clear hrr hc
            go_wp2_with fail
            go_roundw
            case rel => exact ⟨i + 1, _, by omega, by go_num, rfl, trivial, HR.out⟩
            all_goals (simp only [RowKit.intOf]; omega)
    · obtain rfl : i = L := by omega
      rw [List.drop_eq_nil_of_le (by rw [HLK.out]; exact Nat.le_refl _)] at hrr
      unfold vgo at hrr
      by_cases hL : i < 10
      · have hLl : (i : Int) < 10 := by omega
        rw [if_pos hL] at hrr
        have HR := Lib.hid hrr.symm
        clear hrr
        go_wp2_with fail
        refine (stop_walk k A c b p 0 p 1 w1 HAT1.out).mono ?_
        rintro e w2 ⟨rfl, hr, hb⟩
        have HR2 := Lib.hid hr
        have HB2 := Lib.hid ((But.of_below HBQ.out).trans hb)
        clear hr hb
        go_wp2_with fail
        go_ret
        rw [HR.out]
        exact ⟨rfl, ⟨HR2.out, HLE.out, (by decide : (1 : Nat) < 5)⟩, HB2.out⟩
      · have hLl : ¬ (i : Int) < 10 := by omega
        rw [if_neg hL] at hrr
        have HR := Lib.hid hrr.symm
        clear hrr
        go_wp2_with fail
        refine (stop_walk k A c b p 0 p 2 w1 HAT1.out).mono ?_
        rintro e w2 ⟨rfl, hr, hb⟩
        have HR2 := Lib.hid hr
        have HB2 := Lib.hid ((But.of_below HBQ.out).trans hb)
        clear hr hb
        go_wp2_with fail
        go_ret
        rw [HR.out]
        exact ⟨rfl, ⟨HR2.out, HLE.out, (by decide : (2 : Nat) < 5)⟩, HB2.out⟩
set_option maxRecDepth 100000 in
set_option maxHeartbeats 4000000 in
theorem var_any (k : Nat) (A : Option Addr) (c : Nat) (b : List Int) (s : Rs) (most : Int) (w : World) (h : RdS w k A c b s) (hl : b.length ≤ 1000000000) (hby : ∀ y ∈ b, Byte y) :
    Calls Tryd.prog 73 #[.pointer (some ⟨k, 0, none⟩), .int .u64 most] w fun e w' => e = .returned (.int .u64 (vr b s most).1) ∧ RdS w' k A c b (vr b s most).2 ∧ But k w w' := by
  obtain ⟨p, m⟩ := s
  by_cases hm : m = 0
  · subst hm
    exact var_zero k A c b p most w h hl hby
  · have HE := Lib.hid (show vr b ⟨p, m⟩ most = (0, ⟨p, m⟩) from by unfold vr; rw [if_pos hm])
    have c2 : w.cell? ⟨k, 2, none⟩ = some (.int .i64 m) := h.at_.blk.cell 2
    have hm1 : ((m : Int) != 0) = true := by simp; omega
    have hm2 : ((m : Int) == 0) = false := by simp; omega
    have HH := Lib.hid h
    rw [HE.out]
    clear h hm hby
    go_enter Tryd.func73, Tryd.ntmps73
    go_wp2_with fail
    go_ret
    exact ⟨rfl, HH.out, But.refl _ _⟩
end Go.Proofs.YtfbkkcigkpffiaaDoor.St
