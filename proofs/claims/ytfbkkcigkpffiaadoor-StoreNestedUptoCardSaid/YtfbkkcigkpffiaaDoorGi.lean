/- The walk of utf8.ValidString, whatever the two tables hold: what it answers is a function of the tables and the text. -/
import Derived.Test.YtfbkkcigkpffiaaDoorGr
import Derived.Lib.ValidAsc
import Derived.Laws.BitsAllLaws
import Derived.Laws.Closers25b
namespace Go.Proofs.YtfbkkcigkpffiaaDoor.St
open Go Go.Lib Go.RowKit Go.ChangeMaps Go.Proofs.YtfbkkcigkpffiaaDoorW.PrintWords Go.Proofs.YtfbkkcigkpffiaaDoorW.PrintLast Go.Proofs.YtfbkkcigkpffiaaDoorW.PrintMore Go.Proofs.YtfbkkcigkpffiaaDoor.PStoreMany
set_option linter.unusedVariables false
set_option linter.unusedSimpArgs false
/-- What utf8's two tables hold. -/
structure Tb where
  F : Nat → Int
  lo : Nat → Int
  hi : Nat → Int
structure U8T (tb : Tb) (w : World) : Prop where
  f : ∀ i, i < 256 → w.cell? ⟨4, i, none⟩ = some (.int .u8 (tb.F i))
  lo : ∀ i, i < 16 → w.cell? ⟨5, i * 2, none⟩ = some (.int .u8 (tb.lo i))
  hi : ∀ i, i < 16 → w.cell? ⟨5, i * 2 + 1, none⟩ = some (.int .u8 (tb.hi i))
  wf : ∀ i, i < 256 → 0 ≤ tb.F i ∧ tb.F i ≤ 255
theorem U8T.below {tb : Tb} {w w' : World} (h : U8T tb w) (hb : Below w.heap.size w w') : U8T tb w' := ⟨fun i hi => pw_cell_below hb (h.f i hi), fun i hi => pw_cell_below hb (h.lo i hi), fun i hi => pw_cell_below hb (h.hi i hi), h.wf⟩
/-- Eight bytes as a number. -/
def wd (t : ByteArray) : Int := ((Lib.leNat [t.get! 0, t.get! 1, t.get! 2, t.get! 3, t.get! 4, t.get! 5, t.get! 6, t.get! 7] : Nat) : Int)
def ext (t : ByteArray) (k : Nat) : ByteArray := t.extract k t.size
theorem ext_size (t : ByteArray) (k : Nat) : (ext t k).size = t.size - k := Lib.ext_size t k
def q8 (t : ByteArray) : Bool := Go.bits .and .u64 (wd t) 9259542123273814144 == 0
def q16 (t : ByteArray) : Bool := Go.bits .and .u64 (Go.bits .or .u64 (wd t) (wd (ext t 8))) 9259542123273814144 == 0
def q32 (t : ByteArray) : Bool := Go.bits .and .u64 (Go.bits .or .u64 (Go.bits .or .u64 (wd t) (wd (ext t 8))) (Go.bits .or .u64 (wd (ext t 16)) (wd (ext t 24)))) 9259542123273814144 == 0
def sk32 : Nat → ByteArray → ByteArray
  | 0, t => t
  | n + 1, t => if 32 < t.size then if q32 t then sk32 n (ext t 32) else t else t
/-- The way behind a byte below 128. -/
def fast (t : ByteArray) : ByteArray :=
  if 8 < t.size then
    if q8 t then
      if 16 < (ext t 8).size then
        if q16 (ext t 8) then sk32 ((ext (ext t 8) 16).size + 1) (ext (ext t 8) 16) else ext t 8
      else ext t 8
    else t
  else t
def bt (t : ByteArray) (i : Nat) : Int := ((t.get! i).toNat : Int)
/-- Whether the bytes behind a first byte may be. -/
def tailOk (lo hi : Int) (t : ByteArray) (n : Nat) : Bool :=
  if t.size < n then false else if bt t 1 < lo then false else if hi < bt t 1 then false else
  if n = 2 then true else if bt t 2 < 128 then false else if 191 < bt t 2 then false else
  if n = 3 then true else if bt t 3 < 128 then false else if 191 < bt t 3 then false else true
def vsf (tb : Tb) : Nat → ByteArray → Bool
  | 0, _ => true
  | g + 1, t => if t.size = 0 then true else
    if bt t 0 < 128 then vsf tb g (fast (ext t 1)) else
    if Go.bits .and .u8 (tb.F (t.get! 0).toNat) 7 = 2 then if tailOk (tb.lo (tb.F (t.get! 0).toNat / 16).toNat) (tb.hi (tb.F (t.get! 0).toNat / 16).toNat) t 2 then vsf tb g (ext t 2) else false else
    if Go.bits .and .u8 (tb.F (t.get! 0).toNat) 7 = 3 then if tailOk (tb.lo (tb.F (t.get! 0).toNat / 16).toNat) (tb.hi (tb.F (t.get! 0).toNat / 16).toNat) t 3 then vsf tb g (ext t 3) else false else
    if Go.bits .and .u8 (tb.F (t.get! 0).toNat) 7 = 4 then if tailOk (tb.lo (tb.F (t.get! 0).toNat / 16).toNat) (tb.hi (tb.F (t.get! 0).toNat / 16).toNat) t 4 then vsf tb g (ext t 4) else false else false
/-- What ValidString answers. -/
def vs (tb : Tb) (s : ByteArray) : Bool := vsf tb (s.size + 1) s
theorem word_walk (t : ByteArray) (w : World) (h : 8 ≤ t.size) : Calls Tryd.prog 113 #[.string t] w fun e w' => e = .returned (.int .u64 (wd t)) ∧ ∃ q, w' = w.drewN q := Any.utf8_word Tryd.laysWord t w h
theorem fast_size (t : ByteArray) : (fast t).size ≤ t.size := by
  have hsk : ∀ n (u : ByteArray), (sk32 n u).size ≤ u.size := by
    intro n
    induction n with
    | zero => intro u; exact Nat.le_refl _
    | succ n ih =>
      intro u
      unfold sk32
      split
      · split
        · exact Nat.le_trans (ih _) (by rw [ext_size]; omega)
        · exact Nat.le_refl _
      · exact Nat.le_refl _
  unfold fast
  have e1 := ext_size t 8
  have e2 := ext_size (ext t 8) 16
  split
  · split
    · split
      · split
        · exact Nat.le_trans (hsk _ _) (by omega)
        · omega
      · omega
    · exact Nat.le_refl _
  · exact Nat.le_refl _
set_option maxRecDepth 1000000 in
set_option maxHeartbeats 16000000 in
theorem valid_walk (tb : Tb) (s : ByteArray) (w : World) (hs : s.size ≤ 9223372036854775807) (hT : U8T tb w) :
    Calls Tryd.prog 111 #[.string s] w fun e w' => e = .returned (.bool (vs tb s)) ∧ Below w.heap.size w w' := by
  have HT := Lib.hid hT
  unfold vs
  obtain ⟨ANS, hANS⟩ : ∃ ANS, vsf tb (s.size + 1) s = ANS := ⟨_, rfl⟩
  rw [hANS]
  have HANS := Lib.hid hANS
  clear hT hANS
  go_enter Tryd.func111, Tryd.ntmps111
  go_wp2_with fail
  go_loopg [0] (s.size + 1) (fun gk s0 wx => Below w.heap.size w wx ∧ ∃ t : ByteArray, s0 = .string t ∧ vsf tb gk t = ANS ∧ t.size < gk ∧ t.size ≤ 9223372036854775807)
  case atStart => exact ⟨Below.refl _ _, s, rfl, HANS.out, by omega, hs⟩
  case round =>
    obtain ⟨hbw, t, rfl, hv, hg, hts⟩ := hrel
    obtain ⟨g', rfl⟩ : ∃ g', gk = g' + 1 := ⟨gk - 1, by omega⟩
    have HBW := Lib.hid hbw
    have HTr := Lib.hid (HT.out.below hbw)
    unfold vsf at hv
    clear hbw
    by_cases h0 : 0 < t.size
    · have h0z : (0 : Int) < (t.size : Int) := by omega
      rw [if_neg (by omega)] at hv
      obtain ⟨x0, hx0⟩ : ∃ x0, t.get! 0 = x0 := ⟨_, rfl⟩
      have hs0 : t[0]'(by omega) = x0 := by rw [← hx0]; exact (Utf8W.get!_of_lt t 0 (by omega)).symm
      have hx0lt : x0.toNat < 256 := x0.toNat_lt
      rw [show bt t 0 = (x0.toNat : Int) from by unfold bt; rw [hx0]] at hv
      rw [hx0] at hv
      by_cases hasc : (x0.toNat : Int) < 128
      · rw [if_pos hasc] at hv
        obtain ⟨t1, ht1⟩ : ∃ t1, ext t 1 = t1 := ⟨_, rfl⟩
        have ht1' : t.extract 1 t.size = t1 := ht1
        have z1 : t1.size + 1 = t.size := by rw [← ht1, ext_size]; omega
        have hfs := fast_size t1
        rw [ht1] at hv
        unfold fast at hv hfs
        clear ht1
        by_cases c8 : 8 < t1.size
        · have c8z : (8 : Int) < (t1.size : Int) := by omega
          rw [if_pos c8] at hv hfs
          have cW1 : ∀ W, Calls Tryd.prog 113 #[.string t1] W fun e w' => e = .returned (.int .u64 (wd t1)) ∧ ∃ q, w' = W.drewN q := fun W => word_walk t1 W (by omega)
          have HCW1 := Lib.hid cW1
          clear cW1
          by_cases hq : q8 t1 = true
          · rw [if_pos hq] at hv hfs
            have hqb : (Go.bits .and .u64 (wd t1) 9259542123273814144 == 0) = true := hq
            obtain ⟨t2, ht2⟩ : ∃ t2, ext t1 8 = t2 := ⟨_, rfl⟩
            have ht2' : t1.extract 8 t1.size = t2 := ht2
            have z2 : t2.size + 8 = t1.size := by rw [← ht2, ext_size]; omega
            rw [ht2] at hv hfs
            clear ht2 hq
            go_wp2_with (go_at_call 113; refine (HCW1.out _).mono ?_; rintro e W1 ⟨rfl, q1, rfl⟩)
            obtain ⟨wq, hwq⟩ : ∃ wq, wr.drewN q1 = wq := ⟨_, rfl⟩
            have HBQ := Lib.hid (show Below w.heap.size w wq from hwq ▸ pw_below_drewN HBW.out q1)
            rw [hwq]
            clear hwq hqb HCW1 ht1'
            by_cases c16 : 16 < t2.size
            · have c16z : (16 : Int) < (t2.size : Int) := by omega
              have s8z : (8 : Int) ≤ (t2.size : Int) := by omega
              rw [if_pos c16] at hv hfs
              obtain ⟨t2b, ht2b⟩ : ∃ t2b, ext t2 8 = t2b := ⟨_, rfl⟩
              have ht2b' : t2.extract 8 t2.size = t2b := ht2b
              have z2b : t2b.size + 8 = t2.size := by rw [← ht2b, ext_size]; omega
              have cW2 : ∀ W, Calls Tryd.prog 113 #[.string t2] W fun e w' => e = .returned (.int .u64 (wd t2)) ∧ ∃ q, w' = W.drewN q := fun W => word_walk t2 W (by omega)
              have HCW2 := Lib.hid cW2
              clear cW2
              have cW3 : ∀ W, Calls Tryd.prog 113 #[.string t2b] W fun e w' => e = .returned (.int .u64 (wd t2b)) ∧ ∃ q, w' = W.drewN q := fun W => word_walk t2b W (by omega)
              have HCW3 := Lib.hid cW3
              clear cW3
              have hq16 : q16 t2 = (Go.bits .and .u64 (Go.bits .or .u64 (wd t2) (wd t2b)) 9259542123273814144 == 0) := by unfold q16; rw [ht2b]
              clear ht2b
              by_cases hq : q16 t2 = true
              · rw [if_pos hq] at hv hfs
                rw [hq16] at hq
                obtain ⟨t3, ht3⟩ : ∃ t3, ext t2 16 = t3 := ⟨_, rfl⟩
                have ht3' : t2.extract 16 t2.size = t3 := ht3
                have z3 : t3.size + 16 = t2.size := by rw [← ht3, ext_size]; omega
                rw [ht3] at hv hfs
                have HV := Lib.hid hv
                clear ht3 hq16 hv
                go_quiet (first | ((with_reducible refine Calls.quiet_of (HCW2.out _))) | ((with_reducible refine Calls.quiet_of (HCW3.out _))))
                obtain ⟨wq2, hwq2⟩ : ∃ x, wq.drewN nq = x := ⟨_, rfl⟩
                have HB2 := Lib.hid (show Below w.heap.size w wq2 from hwq2 ▸ pw_below_drewN HBQ.out nq)
                rw [hwq2]
                clear hwq2 HCW2 HCW3 ht2' ht2b' hq
                obtain ⟨R3, hR3⟩ : ∃ R3, sk32 (t3.size + 1) t3 = R3 := ⟨_, rfl⟩
                have HVR := HV.out
                rw [hR3] at hfs HVR
                have HV := Lib.hid HVR
                have HR3 := Lib.hid hR3
                clear HVR hR3
                go_wp2_with fail
                clear ht3'
                go_loopg [0] (t3.size + 1) (fun g2 s0 wx => Below w.heap.size w wx ∧ ∃ u : ByteArray, s0 = .string u ∧ sk32 g2 u = R3 ∧ u.size < g2 ∧ u.size ≤ t3.size)
                case atStart => exact ⟨HB2.out, t3, rfl, HR3.out, by omega, Nat.le_refl _⟩
                case round =>
                  obtain ⟨hbu, u, rfl, hu, hgu, hut⟩ := hrel
                  obtain ⟨g3, rfl⟩ : ∃ g3, gk = g3 + 1 := ⟨gk - 1, by omega⟩
                  have HBU := Lib.hid hbu
                  unfold sk32 at hu
                  clear hbu
                  by_cases c32 : 32 < u.size
                  · rw [if_pos c32] at hu
                    have c32z : (32 : Int) < (u.size : Int) := by omega
                    have s8u : (8 : Int) ≤ (u.size : Int) := by omega
                    have s16u : (16 : Int) ≤ (u.size : Int) := by omega
                    have s24u : (24 : Int) ≤ (u.size : Int) := by omega
                    obtain ⟨ub, hub⟩ : ∃ ub, ext u 8 = ub := ⟨_, rfl⟩
                    obtain ⟨uc, huc⟩ : ∃ uc, ext u 16 = uc := ⟨_, rfl⟩
                    obtain ⟨ud, hud⟩ : ∃ ud, ext u 24 = ud := ⟨_, rfl⟩
                    have zub : ub.size + 8 = u.size := by rw [← hub, ext_size]; omega
                    have zuc : uc.size + 16 = u.size := by rw [← huc, ext_size]; omega
                    have zud : ud.size + 24 = u.size := by rw [← hud, ext_size]; omega
                    have hub' : u.extract 8 u.size = ub := hub
                    have huc' : u.extract 16 u.size = uc := huc
                    have hud' : u.extract 24 u.size = ud := hud
                    have cW4 : ∀ W, Calls Tryd.prog 113 #[.string u] W fun e w' => e = .returned (.int .u64 (wd u)) ∧ ∃ q, w' = W.drewN q := fun W => word_walk u W (by omega)
                    have HCW4 := Lib.hid cW4
                    clear cW4
                    have cW5 : ∀ W, Calls Tryd.prog 113 #[.string ub] W fun e w' => e = .returned (.int .u64 (wd ub)) ∧ ∃ q, w' = W.drewN q := fun W => word_walk ub W (by omega)
                    have HCW5 := Lib.hid cW5
                    clear cW5
                    have cW6 : ∀ W, Calls Tryd.prog 113 #[.string uc] W fun e w' => e = .returned (.int .u64 (wd uc)) ∧ ∃ q, w' = W.drewN q := fun W => word_walk uc W (by omega)
                    have HCW6 := Lib.hid cW6
                    clear cW6
                    have cW7 : ∀ W, Calls Tryd.prog 113 #[.string ud] W fun e w' => e = .returned (.int .u64 (wd ud)) ∧ ∃ q, w' = W.drewN q := fun W => word_walk ud W (by omega)
                    have HCW7 := Lib.hid cW7
                    clear cW7
                    have hq32 : q32 u = (Go.bits .and .u64 (Go.bits .or .u64 (Go.bits .or .u64 (wd u) (wd ub)) (Go.bits .or .u64 (wd uc) (wd ud))) 9259542123273814144 == 0) := by unfold q32; rw [hub, huc, hud]
                    clear hub huc hud
                    by_cases hq : q32 u = true
                    · rw [if_pos hq] at hu
                      rw [hq32] at hq
                      obtain ⟨u2, hu2⟩ : ∃ u2, ext u 32 = u2 := ⟨_, rfl⟩
                      have hu2' : u.extract 32 u.size = u2 := hu2
                      have zu2 : u2.size + 32 = u.size := by rw [← hu2, ext_size]; omega
                      rw [hu2] at hu
                      have HU := Lib.hid hu
                      clear hq32 hu2 hu
                      go_wp2_with fail
                      go_quiet (first | ((with_reducible refine Calls.quiet_of (HCW4.out _))) | ((with_reducible refine Calls.quiet_of (HCW5.out _))) | ((with_reducible refine Calls.quiet_of (HCW6.out _))) | ((with_reducible refine Calls.quiet_of (HCW7.out _))))
                      go_wp2_with fail
                      go_roundg g3
                      case measure => omega
                      case rel => exact ⟨pw_below_drewN HBU.out _, u2, rfl, HU.out, by omega, by omega⟩
                    · rw [if_neg hq] at hu
                      rw [hq32] at hq
                      have hqb : (Go.bits .and .u64 (Go.bits .or .u64 (Go.bits .or .u64 (wd u) (wd ub)) (Go.bits .or .u64 (wd uc) (wd ud))) 9259542123273814144 == 0) = false := by simpa using hq
                      have HU := Lib.hid hu
                      clear hq32 hq hu
                      go_wp2_with fail
                      go_quiet (first | ((with_reducible refine Calls.quiet_of (HCW4.out _))) | ((with_reducible refine Calls.quiet_of (HCW5.out _))) | ((with_reducible refine Calls.quiet_of (HCW6.out _))) | ((with_reducible refine Calls.quiet_of (HCW7.out _))))
                      go_wp2_with fail
                      go_roundg g'
                      case measure => omega
                      case rel => exact ⟨pw_below_drewN HBU.out _, u, rfl, by rw [HU.out]; exact HV.out, by omega, by omega⟩
                  · rw [if_neg c32] at hu
                    have c32z : ¬ ((32 : Int) < (u.size : Int)) := by omega
                    have c32b : decide ((32 : Int) < (u.size : Int)) = false := decide_eq_false c32z
                    have HU := Lib.hid hu
                    clear hu
                    go_wp2_with fail
                    go_quiet (fail)
                    go_wp2_with fail
                    go_roundg g'
                    case measure => omega
                    case rel => exact ⟨pw_below_drewN HBU.out _, u, rfl, by rw [HU.out]; exact HV.out, by omega, by omega⟩
              · rw [if_neg hq] at hv hfs
                rw [hq16] at hq
                have hqb : (Go.bits .and .u64 (Go.bits .or .u64 (wd t2) (wd t2b)) 9259542123273814144 == 0) = false := by simpa using hq
                have HV := Lib.hid hv
                clear hq16 hq hv
                go_quiet (first | ((with_reducible refine Calls.quiet_of (HCW2.out _))) | ((with_reducible refine Calls.quiet_of (HCW3.out _))))
                go_wp2_with fail
                go_roundg g'
                case measure => omega
                case rel => exact ⟨pw_below_drewN HBQ.out nq, t2, rfl, HV.out, by omega, by omega⟩
            · have c16z : ¬ ((16 : Int) < (t2.size : Int)) := by omega
              have c16b : decide ((16 : Int) < (t2.size : Int)) = false := decide_eq_false c16z
              rw [if_neg c16] at hv hfs
              have HV := Lib.hid hv
              clear hv
              go_quiet (fail)
              go_wp2_with fail
              go_roundg g'
              case measure => omega
              case rel => exact ⟨pw_below_drewN HBQ.out _, t2, rfl, HV.out, by omega, by omega⟩
          · rw [if_neg hq] at hv hfs
            have hqb : (Go.bits .and .u64 (wd t1) 9259542123273814144 == 0) = false := by simpa [q8] using hq
            have HV := Lib.hid hv
            clear hq hv
            go_wp2_with (go_at_call 113; refine (HCW1.out _).mono ?_; rintro e W1 ⟨rfl, q1, rfl⟩)
            go_roundg g'
            case measure => omega
            case rel => exact ⟨pw_below_drewN HBW.out q1, t1, rfl, HV.out, by omega, by omega⟩
        · have c8z : ¬ ((8 : Int) < (t1.size : Int)) := by omega
          rw [if_neg c8] at hv hfs
          have HV := Lib.hid hv
          clear hv
          go_wp2_with fail
          go_roundg g'
          case measure => omega
          case rel => exact ⟨HBW.out, t1, rfl, HV.out, by omega, by omega⟩
      · rw [if_neg hasc] at hv
        have hX := HTr.out.wf _ hx0lt
        have hfc := HTr.out.f _ hx0lt
        obtain ⟨Y, hY⟩ : ∃ Y, tb.F x0.toNat = Y := ⟨_, rfl⟩
        rw [hY] at hX hfc hv
        obtain ⟨X, rfl⟩ := Int.eq_ofNat_of_zero_le hX.1
        have hX255 : X ≤ 255 := by have := hX.2; omega
        have hX16 : X / 16 < 16 := by omega
        have hlc := HTr.out.lo _ hX16
        have hhc := HTr.out.hi _ hX16
        rw [show (((X : Int) / 16).toNat) = X / 16 from by omega] at hv
        obtain ⟨L, hL⟩ : ∃ L, tb.lo (X / 16) = L := ⟨_, rfl⟩
        obtain ⟨H, hH⟩ : ∃ H, tb.hi (X / 16) = H := ⟨_, rfl⟩
        rw [hL] at hlc hv
        rw [hH] at hhc hv
        have hyb := bits_within .and .u8 (X : Int) 7
        obtain ⟨y, hy⟩ : ∃ y, Go.bits .and .u8 (X : Int) 7 = y := ⟨_, rfl⟩
        rw [hy] at hyb hv
        have hy0 : 0 ≤ y := hyb.1
        have hy1 : y ≤ 255 := hyb.2
        clear hX hY hL hH hyb
        by_cases hy2 : y = 2
        · rw [if_pos hy2] at hv
          have hyb2 : (y == 2) = true := by simpa using hy2
          clear hy2
          obtain ⟨wa, hwa⟩ : ∃ wa, wr.alloc (Obj.cells #[Value.int .u8 L, Value.int .u8 H] 170) = wa := ⟨_, rfl⟩
          have HWA := Lib.hid hwa
          have HBA := Lib.hid (show Below w.heap.size w wa from hwa ▸ HBW.out.trans (below_alloc (Below.refl _ _) _ |>.mono HBW.out.size))
          have HZA := Lib.hid HBA.out.size
          have HBZ := Lib.hid (fun q : Nat => (show Below w.heap.size wa (wa.drewN q) from (pw_below_drewN (Below.refl _ wa) q).mono HBA.out.size))
          have ca0 : wa.cell? ⟨wr.heap.size, 0, none⟩ = some (.int .u8 L) := by rw [← hwa]; exact (Blk.new wr 170 [Value.int .u8 L, Value.int .u8 H]).cell 0
          have ca1 : wa.cell? ⟨wr.heap.size, 1, none⟩ = some (.int .u8 H) := by rw [← hwa]; exact (Blk.new wr 170 [Value.int .u8 L, Value.int .u8 H]).cell 1
          clear hwa
          go_upto_region 17 with fail
          rw [HWA.out]
          by_cases hc0 : (t.size : Int) < 2
          · have hd0 : decide ((t.size : Int) < 2) = true := decide_eq_true hc0
            have hk : tailOk L H t 2 = false := by unfold tailOk; (try rw [HB1.out]); (try rw [HB2.out]); (try rw [HB3.out]); rw [if_pos (by first | omega | assumption)]
            rw [hk, if_neg Bool.false_ne_true] at hv
            have HV := Lib.hid hv
            clear hv hk
            go_quiet (fail)
            go_wp2_with fail
            go_ret
            rw [← HV.out]
            exact ⟨rfl, HBA.out.trans (HBZ.out _ )⟩
          · have hd0 : decide ((t.size : Int) < 2) = false := decide_eq_false hc0
            obtain ⟨x1, hx1⟩ : ∃ x, t.get! 1 = x := ⟨_, rfl⟩
            have hs1 : t[1]'(by omega) = x1 := by rw [← hx1]; exact (Utf8W.get!_of_lt t 1 (by omega)).symm
            have hsz1 : (1 : Int) < (t.size : Int) := by omega
            have hb1 : bt t 1 = (x1.toNat : Int) := by unfold bt; rw [hx1]
            have HB1 := Lib.hid hb1
            have hxl1 : x1.toNat < 256 := x1.toNat_lt
            clear hx1 hb1
            by_cases hc1 : (x1.toNat : Int) < L
            · have hd1 : decide ((x1.toNat : Int) < L) = true := decide_eq_true hc1
              have hk : tailOk L H t 2 = false := by unfold tailOk; (try rw [HB1.out]); (try rw [HB2.out]); (try rw [HB3.out]); rw [if_neg (by first | omega | assumption), if_pos (by first | omega | assumption)]
              rw [hk, if_neg Bool.false_ne_true] at hv
              have HV := Lib.hid hv
              clear hv hk
              go_quiet (fail)
              go_wp2_with fail
              go_ret
              rw [← HV.out]
              exact ⟨rfl, HBA.out.trans (HBZ.out _ )⟩
            · have hd1 : decide ((x1.toNat : Int) < L) = false := decide_eq_false hc1
              by_cases hc2 : H < (x1.toNat : Int)
              · have hd2 : decide (H < (x1.toNat : Int)) = true := decide_eq_true hc2
                have hk : tailOk L H t 2 = false := by unfold tailOk; (try rw [HB1.out]); (try rw [HB2.out]); (try rw [HB3.out]); rw [if_neg (by first | omega | assumption), if_neg (by first | omega | assumption), if_pos (by first | omega | assumption)]
                rw [hk, if_neg Bool.false_ne_true] at hv
                have HV := Lib.hid hv
                clear hv hk
                go_quiet (fail)
                go_wp2_with fail
                go_ret
                rw [← HV.out]
                exact ⟨rfl, HBA.out.trans (HBZ.out _ )⟩
              · have hd2 : decide (H < (x1.toNat : Int)) = false := decide_eq_false hc2
                have hk : tailOk L H t 2 = true := by unfold tailOk; (try rw [HB1.out]); (try rw [HB2.out]); (try rw [HB3.out]); rw [if_neg (by first | omega | assumption), if_neg (by first | omega | assumption), if_neg (by first | omega | assumption), if_pos rfl]
                rw [hk, if_pos rfl] at hv
                obtain ⟨t2, ht2⟩ : ∃ t2, ext t 2 = t2 := ⟨_, rfl⟩
                have ht2' : t.extract 2 t.size = t2 := ht2
                have z2 : t2.size + 2 = t.size := by rw [← ht2, ext_size]; omega
                rw [ht2] at hv
                have HV := Lib.hid hv
                clear hv hk ht2
                go_quiet (fail)
                go_wp2_with fail
                go_roundg g'
                case measure => omega
                case rel => exact ⟨HBA.out.trans (HBZ.out _), t2, rfl, HV.out, by omega, by omega⟩
        · rw [if_neg hy2] at hv
          have hyb2 : (y == 2) = false := by simpa using hy2
          clear hy2
          by_cases hy3 : y = 3
          · rw [if_pos hy3] at hv
            have hyb3 : (y == 3) = true := by simpa using hy3
            clear hy3
            obtain ⟨wa, hwa⟩ : ∃ wa, wr.alloc (Obj.cells #[Value.int .u8 L, Value.int .u8 H] 170) = wa := ⟨_, rfl⟩
            have HWA := Lib.hid hwa
            have HBA := Lib.hid (show Below w.heap.size w wa from hwa ▸ HBW.out.trans (below_alloc (Below.refl _ _) _ |>.mono HBW.out.size))
            have HZA := Lib.hid HBA.out.size
            have HBZ := Lib.hid (fun q : Nat => (show Below w.heap.size wa (wa.drewN q) from (pw_below_drewN (Below.refl _ wa) q).mono HBA.out.size))
            have ca0 : wa.cell? ⟨wr.heap.size, 0, none⟩ = some (.int .u8 L) := by rw [← hwa]; exact (Blk.new wr 170 [Value.int .u8 L, Value.int .u8 H]).cell 0
            have ca1 : wa.cell? ⟨wr.heap.size, 1, none⟩ = some (.int .u8 H) := by rw [← hwa]; exact (Blk.new wr 170 [Value.int .u8 L, Value.int .u8 H]).cell 1
            clear hwa
            go_upto_region 21 with fail
            rw [HWA.out]
            by_cases hc0 : (t.size : Int) < 3
            · have hd0 : decide ((t.size : Int) < 3) = true := decide_eq_true hc0
              have hk : tailOk L H t 3 = false := by unfold tailOk; (try rw [HB1.out]); (try rw [HB2.out]); (try rw [HB3.out]); rw [if_pos (by first | omega | assumption)]
              rw [hk, if_neg Bool.false_ne_true] at hv
              have HV := Lib.hid hv
              clear hv hk
              go_quiet (fail)
              go_wp2_with fail
              go_ret
              rw [← HV.out]
              exact ⟨rfl, HBA.out.trans (HBZ.out _ )⟩
            · have hd0 : decide ((t.size : Int) < 3) = false := decide_eq_false hc0
              obtain ⟨x1, hx1⟩ : ∃ x, t.get! 1 = x := ⟨_, rfl⟩
              have hs1 : t[1]'(by omega) = x1 := by rw [← hx1]; exact (Utf8W.get!_of_lt t 1 (by omega)).symm
              have hsz1 : (1 : Int) < (t.size : Int) := by omega
              have hb1 : bt t 1 = (x1.toNat : Int) := by unfold bt; rw [hx1]
              have HB1 := Lib.hid hb1
              have hxl1 : x1.toNat < 256 := x1.toNat_lt
              clear hx1 hb1
              obtain ⟨x2, hx2⟩ : ∃ x, t.get! 2 = x := ⟨_, rfl⟩
              have hs2 : t[2]'(by omega) = x2 := by rw [← hx2]; exact (Utf8W.get!_of_lt t 2 (by omega)).symm
              have hsz2 : (2 : Int) < (t.size : Int) := by omega
              have hb2 : bt t 2 = (x2.toNat : Int) := by unfold bt; rw [hx2]
              have HB2 := Lib.hid hb2
              have hxl2 : x2.toNat < 256 := x2.toNat_lt
              clear hx2 hb2
              by_cases hc1 : (x1.toNat : Int) < L
              · have hd1 : decide ((x1.toNat : Int) < L) = true := decide_eq_true hc1
                have hk : tailOk L H t 3 = false := by unfold tailOk; (try rw [HB1.out]); (try rw [HB2.out]); (try rw [HB3.out]); rw [if_neg (by first | omega | assumption), if_pos (by first | omega | assumption)]
                rw [hk, if_neg Bool.false_ne_true] at hv
                have HV := Lib.hid hv
                clear hv hk
                go_quiet (fail)
                go_wp2_with fail
                go_ret
                rw [← HV.out]
                exact ⟨rfl, HBA.out.trans (HBZ.out _ )⟩
              · have hd1 : decide ((x1.toNat : Int) < L) = false := decide_eq_false hc1
                by_cases hc2 : H < (x1.toNat : Int)
                · have hd2 : decide (H < (x1.toNat : Int)) = true := decide_eq_true hc2
                  have hk : tailOk L H t 3 = false := by unfold tailOk; (try rw [HB1.out]); (try rw [HB2.out]); (try rw [HB3.out]); rw [if_neg (by first | omega | assumption), if_neg (by first | omega | assumption), if_pos (by first | omega | assumption)]
                  rw [hk, if_neg Bool.false_ne_true] at hv
                  have HV := Lib.hid hv
                  clear hv hk
                  go_quiet (fail)
                  go_wp2_with fail
                  go_ret
                  rw [← HV.out]
                  exact ⟨rfl, HBA.out.trans (HBZ.out _ )⟩
                · have hd2 : decide (H < (x1.toNat : Int)) = false := decide_eq_false hc2
                  by_cases hc3 : (x2.toNat : Int) < 128
                  · have hd3 : decide ((x2.toNat : Int) < 128) = true := decide_eq_true hc3
                    have hk : tailOk L H t 3 = false := by unfold tailOk; (try rw [HB1.out]); (try rw [HB2.out]); (try rw [HB3.out]); rw [if_neg (by first | omega | assumption), if_neg (by first | omega | assumption), if_neg (by first | omega | assumption), if_neg (by decide), if_pos (by first | omega | assumption)]
                    rw [hk, if_neg Bool.false_ne_true] at hv
                    have HV := Lib.hid hv
                    clear hv hk
                    go_quiet (fail)
                    go_wp2_with fail
                    go_ret
                    rw [← HV.out]
                    exact ⟨rfl, HBA.out.trans (HBZ.out _ )⟩
                  · have hd3 : decide ((x2.toNat : Int) < 128) = false := decide_eq_false hc3
                    by_cases hc4 : 191 < (x2.toNat : Int)
                    · have hd4 : decide (191 < (x2.toNat : Int)) = true := decide_eq_true hc4
                      have hk : tailOk L H t 3 = false := by unfold tailOk; (try rw [HB1.out]); (try rw [HB2.out]); (try rw [HB3.out]); rw [if_neg (by first | omega | assumption), if_neg (by first | omega | assumption), if_neg (by first | omega | assumption), if_neg (by decide), if_neg (by first | omega | assumption), if_pos (by first | omega | assumption)]
                      rw [hk, if_neg Bool.false_ne_true] at hv
                      have HV := Lib.hid hv
                      clear hv hk
                      go_quiet (fail)
                      go_wp2_with fail
                      go_ret
                      rw [← HV.out]
                      exact ⟨rfl, HBA.out.trans (HBZ.out _ )⟩
                    · have hd4 : decide (191 < (x2.toNat : Int)) = false := decide_eq_false hc4
                      have hk : tailOk L H t 3 = true := by unfold tailOk; (try rw [HB1.out]); (try rw [HB2.out]); (try rw [HB3.out]); rw [if_neg (by first | omega | assumption), if_neg (by first | omega | assumption), if_neg (by first | omega | assumption), if_neg (by decide), if_neg (by first | omega | assumption), if_neg (by first | omega | assumption), if_pos rfl]
                      rw [hk, if_pos rfl] at hv
                      obtain ⟨t2, ht2⟩ : ∃ t2, ext t 3 = t2 := ⟨_, rfl⟩
                      have ht2' : t.extract 3 t.size = t2 := ht2
                      have z2 : t2.size + 3 = t.size := by rw [← ht2, ext_size]; omega
                      rw [ht2] at hv
                      have HV := Lib.hid hv
                      clear hv hk ht2
                      go_quiet (fail)
                      go_wp2_with fail
                      go_roundg g'
                      case measure => omega
                      case rel => exact ⟨HBA.out.trans (HBZ.out _), t2, rfl, HV.out, by omega, by omega⟩
          · rw [if_neg hy3] at hv
            have hyb3 : (y == 3) = false := by simpa using hy3
            clear hy3
            by_cases hy4 : y = 4
            · rw [if_pos hy4] at hv
              have hyb4 : (y == 4) = true := by simpa using hy4
              clear hy4
              obtain ⟨wa, hwa⟩ : ∃ wa, wr.alloc (Obj.cells #[Value.int .u8 L, Value.int .u8 H] 170) = wa := ⟨_, rfl⟩
              have HWA := Lib.hid hwa
              have HBA := Lib.hid (show Below w.heap.size w wa from hwa ▸ HBW.out.trans (below_alloc (Below.refl _ _) _ |>.mono HBW.out.size))
              have HZA := Lib.hid HBA.out.size
              have HBZ := Lib.hid (fun q : Nat => (show Below w.heap.size wa (wa.drewN q) from (pw_below_drewN (Below.refl _ wa) q).mono HBA.out.size))
              have ca0 : wa.cell? ⟨wr.heap.size, 0, none⟩ = some (.int .u8 L) := by rw [← hwa]; exact (Blk.new wr 170 [Value.int .u8 L, Value.int .u8 H]).cell 0
              have ca1 : wa.cell? ⟨wr.heap.size, 1, none⟩ = some (.int .u8 H) := by rw [← hwa]; exact (Blk.new wr 170 [Value.int .u8 L, Value.int .u8 H]).cell 1
              clear hwa
              go_upto_region 25 with fail
              rw [HWA.out]
              by_cases hc0 : (t.size : Int) < 4
              · have hd0 : decide ((t.size : Int) < 4) = true := decide_eq_true hc0
                have hk : tailOk L H t 4 = false := by unfold tailOk; (try rw [HB1.out]); (try rw [HB2.out]); (try rw [HB3.out]); rw [if_pos (by first | omega | assumption)]
                rw [hk, if_neg Bool.false_ne_true] at hv
                have HV := Lib.hid hv
                clear hv hk
                go_quiet (fail)
                go_wp2_with fail
                go_ret
                rw [← HV.out]
                exact ⟨rfl, HBA.out.trans (HBZ.out _ )⟩
              · have hd0 : decide ((t.size : Int) < 4) = false := decide_eq_false hc0
                obtain ⟨x1, hx1⟩ : ∃ x, t.get! 1 = x := ⟨_, rfl⟩
                have hs1 : t[1]'(by omega) = x1 := by rw [← hx1]; exact (Utf8W.get!_of_lt t 1 (by omega)).symm
                have hsz1 : (1 : Int) < (t.size : Int) := by omega
                have hb1 : bt t 1 = (x1.toNat : Int) := by unfold bt; rw [hx1]
                have HB1 := Lib.hid hb1
                have hxl1 : x1.toNat < 256 := x1.toNat_lt
                clear hx1 hb1
                obtain ⟨x2, hx2⟩ : ∃ x, t.get! 2 = x := ⟨_, rfl⟩
                have hs2 : t[2]'(by omega) = x2 := by rw [← hx2]; exact (Utf8W.get!_of_lt t 2 (by omega)).symm
                have hsz2 : (2 : Int) < (t.size : Int) := by omega
                have hb2 : bt t 2 = (x2.toNat : Int) := by unfold bt; rw [hx2]
                have HB2 := Lib.hid hb2
                have hxl2 : x2.toNat < 256 := x2.toNat_lt
                clear hx2 hb2
                obtain ⟨x3, hx3⟩ : ∃ x, t.get! 3 = x := ⟨_, rfl⟩
                have hs3 : t[3]'(by omega) = x3 := by rw [← hx3]; exact (Utf8W.get!_of_lt t 3 (by omega)).symm
                have hsz3 : (3 : Int) < (t.size : Int) := by omega
                have hb3 : bt t 3 = (x3.toNat : Int) := by unfold bt; rw [hx3]
                have HB3 := Lib.hid hb3
                have hxl3 : x3.toNat < 256 := x3.toNat_lt
                clear hx3 hb3
                by_cases hc1 : (x1.toNat : Int) < L
                · have hd1 : decide ((x1.toNat : Int) < L) = true := decide_eq_true hc1
                  have hk : tailOk L H t 4 = false := by unfold tailOk; (try rw [HB1.out]); (try rw [HB2.out]); (try rw [HB3.out]); rw [if_neg (by first | omega | assumption), if_pos (by first | omega | assumption)]
                  rw [hk, if_neg Bool.false_ne_true] at hv
                  have HV := Lib.hid hv
                  clear hv hk
                  go_quiet (fail)
                  go_wp2_with fail
                  go_ret
                  rw [← HV.out]
                  exact ⟨rfl, HBA.out.trans (HBZ.out _ )⟩
                · have hd1 : decide ((x1.toNat : Int) < L) = false := decide_eq_false hc1
                  by_cases hc2 : H < (x1.toNat : Int)
                  · have hd2 : decide (H < (x1.toNat : Int)) = true := decide_eq_true hc2
                    have hk : tailOk L H t 4 = false := by unfold tailOk; (try rw [HB1.out]); (try rw [HB2.out]); (try rw [HB3.out]); rw [if_neg (by first | omega | assumption), if_neg (by first | omega | assumption), if_pos (by first | omega | assumption)]
                    rw [hk, if_neg Bool.false_ne_true] at hv
                    have HV := Lib.hid hv
                    clear hv hk
                    go_quiet (fail)
                    go_wp2_with fail
                    go_ret
                    rw [← HV.out]
                    exact ⟨rfl, HBA.out.trans (HBZ.out _ )⟩
                  · have hd2 : decide (H < (x1.toNat : Int)) = false := decide_eq_false hc2
                    by_cases hc3 : (x2.toNat : Int) < 128
                    · have hd3 : decide ((x2.toNat : Int) < 128) = true := decide_eq_true hc3
                      have hk : tailOk L H t 4 = false := by unfold tailOk; (try rw [HB1.out]); (try rw [HB2.out]); (try rw [HB3.out]); rw [if_neg (by first | omega | assumption), if_neg (by first | omega | assumption), if_neg (by first | omega | assumption), if_neg (by decide), if_pos (by first | omega | assumption)]
                      rw [hk, if_neg Bool.false_ne_true] at hv
                      have HV := Lib.hid hv
                      clear hv hk
                      go_quiet (fail)
                      go_wp2_with fail
                      go_ret
                      rw [← HV.out]
                      exact ⟨rfl, HBA.out.trans (HBZ.out _ )⟩
                    · have hd3 : decide ((x2.toNat : Int) < 128) = false := decide_eq_false hc3
                      by_cases hc4 : 191 < (x2.toNat : Int)
                      · have hd4 : decide (191 < (x2.toNat : Int)) = true := decide_eq_true hc4
                        have hk : tailOk L H t 4 = false := by unfold tailOk; (try rw [HB1.out]); (try rw [HB2.out]); (try rw [HB3.out]); rw [if_neg (by first | omega | assumption), if_neg (by first | omega | assumption), if_neg (by first | omega | assumption), if_neg (by decide), if_neg (by first | omega | assumption), if_pos (by first | omega | assumption)]
                        rw [hk, if_neg Bool.false_ne_true] at hv
                        have HV := Lib.hid hv
                        clear hv hk
                        go_quiet (fail)
                        go_wp2_with fail
                        go_ret
                        rw [← HV.out]
                        exact ⟨rfl, HBA.out.trans (HBZ.out _ )⟩
                      · have hd4 : decide (191 < (x2.toNat : Int)) = false := decide_eq_false hc4
                        by_cases hc5 : (x3.toNat : Int) < 128
                        · have hd5 : decide ((x3.toNat : Int) < 128) = true := decide_eq_true hc5
                          have hk : tailOk L H t 4 = false := by unfold tailOk; (try rw [HB1.out]); (try rw [HB2.out]); (try rw [HB3.out]); rw [if_neg (by first | omega | assumption), if_neg (by first | omega | assumption), if_neg (by first | omega | assumption), if_neg (by decide), if_neg (by first | omega | assumption), if_neg (by first | omega | assumption), if_neg (by decide), if_pos (by first | omega | assumption)]
                          rw [hk, if_neg Bool.false_ne_true] at hv
                          have HV := Lib.hid hv
                          clear hv hk
                          go_quiet (fail)
                          go_wp2_with fail
                          go_ret
                          rw [← HV.out]
                          exact ⟨rfl, HBA.out.trans (HBZ.out _ )⟩
                        · have hd5 : decide ((x3.toNat : Int) < 128) = false := decide_eq_false hc5
                          by_cases hc6 : 191 < (x3.toNat : Int)
                          · have hd6 : decide (191 < (x3.toNat : Int)) = true := decide_eq_true hc6
                            have hk : tailOk L H t 4 = false := by unfold tailOk; (try rw [HB1.out]); (try rw [HB2.out]); (try rw [HB3.out]); rw [if_neg (by first | omega | assumption), if_neg (by first | omega | assumption), if_neg (by first | omega | assumption), if_neg (by decide), if_neg (by first | omega | assumption), if_neg (by first | omega | assumption), if_neg (by decide), if_neg (by first | omega | assumption), if_pos (by first | omega | assumption)]
                            rw [hk, if_neg Bool.false_ne_true] at hv
                            have HV := Lib.hid hv
                            clear hv hk
                            go_quiet (fail)
                            go_wp2_with fail
                            go_ret
                            rw [← HV.out]
                            exact ⟨rfl, HBA.out.trans (HBZ.out _ )⟩
                          · have hd6 : decide (191 < (x3.toNat : Int)) = false := decide_eq_false hc6
                            have hk : tailOk L H t 4 = true := by unfold tailOk; (try rw [HB1.out]); (try rw [HB2.out]); (try rw [HB3.out]); rw [if_neg (by first | omega | assumption), if_neg (by first | omega | assumption), if_neg (by first | omega | assumption), if_neg (by decide), if_neg (by first | omega | assumption), if_neg (by first | omega | assumption), if_neg (by decide), if_neg (by first | omega | assumption), if_neg (by first | omega | assumption)]
                            rw [hk, if_pos rfl] at hv
                            obtain ⟨t2, ht2⟩ : ∃ t2, ext t 4 = t2 := ⟨_, rfl⟩
                            have ht2' : t.extract 4 t.size = t2 := ht2
                            have z2 : t2.size + 4 = t.size := by rw [← ht2, ext_size]; omega
                            rw [ht2] at hv
                            have HV := Lib.hid hv
                            clear hv hk ht2
                            go_quiet (fail)
                            go_wp2_with fail
                            go_roundg g'
                            case measure => omega
                            case rel => exact ⟨HBA.out.trans (HBZ.out _), t2, rfl, HV.out, by omega, by omega⟩
            · rw [if_neg hy4] at hv
              have hyb4 : (y == 4) = false := by simpa using hy4
              have HV := Lib.hid hv
              have HBA := Lib.hid (show Below w.heap.size w (wr.alloc (Obj.cells #[Value.int .u8 L, Value.int .u8 H] 170)) from HBW.out.trans (below_alloc (Below.refl _ _) _ |>.mono HBW.out.size))
              clear hy4 hv
              go_wp2_with fail
              go_ret
              rw [← HV.out]
              exact ⟨rfl, HBA.out⟩
    · rw [if_pos (by omega)] at hv
      have HV := Lib.hid hv
      have h0z : ¬ (0 : Int) < (t.size : Int) := by omega
      clear hv
      go_wp2_with fail
      go_ret
      rw [HV.out]
      exact ⟨rfl, HBW.out⟩
end Go.Proofs.YtfbkkcigkpffiaaDoor.St
