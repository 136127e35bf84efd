import Derived.Test.YtnolfopgijgpcaaDoorNmA
import Derived.Test.YtnolfopgijgpcaaDoorPRefsRulesx14
import Derived.Test.YtnolfopgijgpcaaDoorPRefsRulesx4
import Derived.Test.YtnolfopgijgpcaaDoorUm
import Derived.Lib.SmallJoins
import Derived.BigQuiet
import Derived.Deep.QuietTactic
/- Plain law: rules that map names: what a side fits, what is put, Map, Unmap; over lists of bytes. No program. -/
namespace Go.Proofs.YtnolfopgijgpcaaDoor.Rm
open Go.Lib Go.Proofs.YtnolfopgijgpcaaDoor.Nm

abbrev By := List UInt8
def noStar (c : UInt8) : Bool := c.toNat != 42
def pre (s : By) : By := s.takeWhile noStar
def hasStar (s : By) : Bool := decide ((pre s).length < s.length)
def suf (s : By) : By := s.drop ((pre s).length + 1)
theorem pre_le (s : By) : (pre s).length ≤ s.length := (List.takeWhile_sublist _).length_le
theorem pre_take (s : By) : pre s = s.take (pre s).length := (List.prefix_iff_eq_take.1 (List.takeWhile_prefix _))
theorem pre_all (s : By) (h : hasStar s = false) : pre s = s := by
  have h1 := pre_le s
  have h2 : ¬ (pre s).length < s.length := by simpa [hasStar] using h
  rw [pre_take, List.take_of_length_le (by omega)]

/-- A side, its star put as the middle. -/
def putL (s m : By) : By := if hasStar s then pre s ++ m ++ suf s else s
/-- Does a text fit the side; the middle. -/
def fitsL (s x : By) : By × Bool :=
  if hasStar s then
    if (pre s).length + (suf s).length ≤ x.length ∧ x.take (pre s).length = pre s ∧ x.drop (x.length - (suf s).length) = suf s
    then ((x.drop (pre s).length).take (x.length - (suf s).length - (pre s).length), true) else ([], false)
  else ([], x == s)
structure R where
  src : By
  dst : By
  force : Bool
  not : Bool
def out (rs : List R) (name : By) : Bool := rs.any fun u => u.not && (fitsL u.src name).2
def takes (u : R) (name : By) : Bool := !u.not && (fitsL u.src name).2 && (hasStar u.src == hasStar u.dst) && goodB (putL u.dst (fitsL u.src name).1)
def first : List R → By → By × Bool × Bool
  | [], _ => ([], false, false)
  | u :: r, name => if takes u name then (putL u.dst (fitsL u.src name).1, u.force, true) else first r name
def mapL (rs : List R) (name : By) : By × Bool × Bool := if goodB name && !out rs name then first rs name else ([], false, false)
def backs (u : R) (t : By) : Bool := !u.not && (fitsL u.dst t).2 && (hasStar u.src == hasStar u.dst)
def unmapL (all : List R) : List R → By → By × Bool
  | [], _ => ([], false)
  | u :: r, t => if backs u t && ((mapL all (putL u.src (fitsL u.dst t).1)).2.2 && (mapL all (putL u.src (fitsL u.dst t).1)).1 == t) then (putL u.src (fitsL u.dst t).1, true) else unmapL all r t

/-- Where the star is, from place i on. -/
theorem pre_at : ∀ (s : By) (i : Nat), i < s.length → (∀ j, j < i → ∀ h : j < s.length, s[j].toNat ≠ 42) → (∀ h : i < s.length, s[i].toNat = 42) → (pre s).length = i
  | [], i, h, _, _ => by simp at h
  | c :: r, 0, _, _, h0 => by
    have := h0 (by simp)
    simp at this
    simp [pre, noStar, this]
  | c :: r, i + 1, h, hb, h0 => by
    have hc := hb 0 (by omega) (by simp)
    simp at hc
    have ih := pre_at r i (by simpa using h) (fun j hj hl => by have := hb (j + 1) (by omega) (by simp; omega); rwa [List.getElem_cons_succ] at this) (fun hl => by have := h0 (by simp; omega); rwa [List.getElem_cons_succ] at this)
    simp only [pre] at ih ⊢
    rw [List.takeWhile_cons_of_pos (by simpa [noStar] using hc), List.length_cons, ih]
theorem pre_none : ∀ (s : By), (∀ j, ∀ h : j < s.length, s[j].toNat ≠ 42) → pre s = s
  | [], _ => rfl
  | c :: r, hb => by
    have hc := hb 0 (by simp)
    simp at hc
    have ih := pre_none r (fun j hl => by have := hb (j + 1) (by simp; omega); rwa [List.getElem_cons_succ] at this)
    simp only [pre] at ih ⊢
    rw [List.takeWhile_cons_of_pos (by simpa [noStar] using hc), ih]
theorem star_split (s : By) (h : hasStar s = true) : s = pre s ++ [42] ++ suf s := by
  have hl : (pre s).length < s.length := by simpa [hasStar] using h
  have h1 : s = s.take (pre s).length ++ s.drop (pre s).length := (List.take_append_drop _ _).symm
  have h2 : s.drop (pre s).length = s[(pre s).length] :: suf s := List.drop_eq_getElem_cons hl
  have h3 : s[(pre s).length] = 42 := by
    have hd : (s.dropWhile noStar).head? = some s[(pre s).length] := by
      have e : s.dropWhile noStar = s.drop (pre s).length := by
        have := List.takeWhile_append_dropWhile (p := noStar) (l := s)
        have h4 : s.take (pre s).length ++ s.drop (pre s).length = s.takeWhile noStar ++ s.dropWhile noStar := by rw [List.take_append_drop, this]
        rw [← pre_take] at h4
        exact (List.append_cancel_left h4).symm
      rw [e, h2]; rfl
    have hp := List.head?_dropWhile_not noStar s
    rw [hd] at hp
    simp [noStar] at hp
    exact UInt8.toNat_inj.1 (by simpa using hp)
  rw [h2, h3, ← pre_take] at h1
  simpa using h1
theorem suf_length (s : By) (h : hasStar s = true) : (pre s).length + (suf s).length + 1 = s.length := by
  have := congrArg List.length (star_split s h)
  simp at this
  omega

/-- The reference's way to ask: put back, the same? -/
theorem fits_put (s x : By) (h : hasStar s = true) (hl : (pre s).length + (suf s).length ≤ x.length) :
    putL s ((x.drop (pre s).length).take (x.length - (suf s).length - (pre s).length)) = x ↔ (x.take (pre s).length = pre s ∧ x.drop (x.length - (suf s).length) = suf s) := by
  unfold putL
  rw [if_pos h]
  have hx : x = x.take (pre s).length ++ (x.drop (pre s).length).take (x.length - (suf s).length - (pre s).length) ++ x.drop (x.length - (suf s).length) := by
    have e1 : (x.drop (pre s).length).drop (x.length - (suf s).length - (pre s).length) = x.drop (x.length - (suf s).length) := by rw [List.drop_drop]; congr 1; omega
    rw [← e1, List.append_assoc, List.take_append_drop, List.take_append_drop]
  constructor
  · intro he
    have l1 : (pre s).length = (x.take (pre s).length).length := by rw [List.length_take]; omega
    have h3 := he.trans hx
    rw [List.append_assoc, List.append_assoc] at h3
    obtain ⟨e1, e2⟩ := List.append_inj h3 l1
    exact ⟨e1.symm, (List.append_cancel_left e2).symm⟩
  · rintro ⟨h1, h2⟩
    rw [h1, h2] at hx
    exact hx.symm
end Go.Proofs.YtnolfopgijgpcaaDoor.Rm
/- Plain law: the reference's star, Put, Fits, pair, Map, Unmap, as they are printed, against the plain ones. -/
namespace Go.Proofs.YtnolfopgijgpcaaDoor.Rm
set_option linter.unusedVariables false
open Go.Lib Go.RowKit Go.Proofs.YtnolfopgijgpcaaDoor.Nm Go.Proofs.YtnolfopgijgpcaaDoor.PRefsRules Go.Proofs.YtnolfopgijgpcaaDoorW.PrintWords

def big : Nat := 2305843009213693952
theorem wrap_in {x : Int} (h0 : -(big : Int) ≤ x) (h1 : x ≤ (big : Int) + big) : wrap64 x = x := by unfold big at *; unfold wrap64; omega
theorem bl_get (s : ByteArray) (i : Nat) (h : i < s.size) : (bl s)[i]'(by rw [bl_length]; exact h) = s.get! i := by
  have h' : i < s.data.size := h
  show s.data.toList[i] = s.data[i]!
  rw [getElem!_pos s.data i h', Array.getElem_toList]
theorem bl_append (a b : ByteArray) : bl (a ++ b) = bl a ++ bl b := by
  show (a ++ b).data.toList = _
  rw [ByteArray.data_append, Array.toList_append]
theorem mk_append (a b : List UInt8) : mk a ++ mk b = mk (a ++ b) := by
  rw [← mk_bl (mk a ++ mk b), bl_append, bl_mk, bl_mk]
theorem mk_size (l : List UInt8) : (mk l).size = l.length := by simp [mk, ByteArray.size]

def starI (s : By) : Int := if hasStar s then ((pre s).length : Int) else -1
theorem star_loop (s : ByteArray) (hs : s.size ≤ big) : ∀ (d i k : Nat), i ≤ s.size → s.size - i ≤ d → d + 1 ≤ k → (∀ j, j < i → (s.get! j).toNat ≠ 42) →
    satchelref14_star.l0 k s (i : Int) = some (starI (bl s))
  | d, i, 0, _, _, hk, _ => by omega
  | d, i, k + 1, hi, hd, hk, hb => by
    unfold satchelref14_star.l0
    by_cases h : i < s.size
    · rw [if_pos (by omega), if_pos (by omega), bt_get]
      by_cases h42 : (s.get! i).toNat = 42
      · rw [if_pos (by omega)]
        have hp := pre_at (bl s) i (by rw [bl_length]; exact h) (fun j hj hl => by rw [bl_get s j (by rw [bl_length] at hl; exact hl)]; exact hb j hj) (fun hl => by rw [bl_get s i h]; exact h42)
        have hh : hasStar (bl s) = true := by unfold hasStar; rw [hp, bl_length]; simpa using h
        unfold starI
        rw [if_pos hh, hp]
      · rw [if_neg (by omega), wrap_in (by unfold big at *; omega) (by unfold big at *; omega), show (i : Int) + 1 = ((i + 1 : Nat) : Int) from by omega]
        exact star_loop s hs (d - 1) (i + 1) k (by omega) (by omega) (by omega) (fun j hj => by
          by_cases e : j = i
          · subst e; exact h42
          · exact hb j (by omega))
    · rw [if_neg (by omega)]
      have hp := pre_none (bl s) (fun j hl => by rw [bl_length] at hl; rw [bl_get s j hl]; exact hb j (by omega))
      have hh : hasStar (bl s) = false := by unfold hasStar; rw [hp]; simp
      unfold starI
      rw [hh]; rfl
termination_by d i k => k
theorem star_eq (s : ByteArray) (k : Nat) (hs : s.size ≤ big) (hk : s.size + 1 ≤ k) : satchelref14_star.f k s = some (starI (bl s)) :=
  star_loop s hs s.size 0 k (by omega) (by omega) (by omega) (by omega)
theorem starI_pos {s : By} (h : hasStar s = true) : starI s = ((pre s).length : Int) := by unfold starI; rw [if_pos h]
theorem starI_neg {s : By} (h : hasStar s = false) : starI s = -1 := by unfold starI; rw [h]; rfl

theorem put_eq (a m : ByteArray) (k : Nat) (hs : a.size ≤ big) (hm : m.size ≤ big) (hk : a.size + 1 ≤ k) : satchelref14_Put.f k a m = some (mk (putL (bl a) (bl m))) := by
  unfold satchelref14_Put.f
  rw [star_eq a k hs hk]
  simp only [Option.bind_some]
  cases h : hasStar (bl a)
  · rw [starI_neg h, if_pos (by omega)]
    unfold putL
    rw [h, ← mk_bl a]; simp [bl_mk]
  · have hl := suf_length _ h
    rw [bl_length] at hl
    have e0 : a.extract 0 (pre (bl a)).length = mk (pre (bl a)) := by rw [extract_mk, List.drop_zero, ← pre_take]
    have e1 : a.extract ((pre (bl a)).length + 1) a.size = mk (suf (bl a)) := by
      rw [extract_mk, List.take_of_length_le (by rw [bl_length]; omega)]; rfl
    rw [starI_pos h, if_neg (by omega), if_pos (by omega), if_pos (by omega), Int.toNat_natCast, e0, mk_size, if_pos (by unfold big at *; omega), wrap_in (by unfold big at *; omega) (by unfold big at *; omega), if_pos (by omega), if_pos (by omega),
      show ((pre (bl a)).length : Int) + 1 = (((pre (bl a)).length + 1 : Nat) : Int) from by omega, Int.toNat_natCast, e1, ← mk_bl m, mk_append, mk_size, mk_size, if_pos (by rw [List.length_append, bl_length]; unfold big at *; omega), mk_append]
    unfold putL
    rw [if_pos h, bl_mk]

def toR (u : S55) : R := ⟨bl u.f0, bl u.f1, u.f2, u.f3⟩
theorem starI_ge (s : By) : decide (starI s ≥ 0) = hasStar s := by
  cases h : hasStar s
  · rw [starI_neg h]; rfl
  · rw [starI_pos h]; simp
end Go.Proofs.YtnolfopgijgpcaaDoor.Rm
/- The leaves of Map and Unmap by their contracts: the reference's Fits, pair, Put, Good; the program's split, fits, put. -/
namespace Go.Proofs.YtnolfopgijgpcaaDoor.Rm
set_option linter.unusedVariables false
open Go.Lib Go.RowKit Go.Proofs.YtnolfopgijgpcaaDoor.Nm Go.Proofs.YtnolfopgijgpcaaDoor.PRefsRules Go.Proofs.YtnolfopgijgpcaaDoorW.PrintWords

theorem refGood (s : ByteArray) (w : World) : Calls Tryd.prog 30 #[.string s] w fun e w' => e = .returned (.bool (goodB (bl s))) ∧ Below w.heap.size w w' :=
  satchelref14_Good.calls 1000 s _ w (good_eq s 1000 (Nat.le_refl _))
theorem refPut (a m : ByteArray) (w : World) (ha : a.size ≤ big) (hm : m.size ≤ big) :
    Calls Tryd.prog 37 #[.string a, .string m] w fun e w' => e = .returned (.string (mk (putL (bl a) (bl m)))) ∧ ∃ n, w' = w.drewN n :=
  (satchelref14_Put.calls (a.size + 1) a m _ w (put_eq a m _ ha hm (Nat.le_refl _))).mono fun e w' ⟨h1, h2⟩ => ⟨h1, h2.out⟩
/-! ### the program's side -/
/-- What split makes of a side: ahead of the star, behind it. -/
def ahd (s : By) : By := if hasStar s then pre s else s
def bhd (s : By) : By := if hasStar s then suf s else []
theorem extract_to (x : ByteArray) (j : Nat) : x.extract 0 j = mk ((bl x).take j) := by rw [extract_mk, List.drop_zero]
theorem extract_from (x : ByteArray) (i : Nat) : x.extract i x.size = mk ((bl x).drop i) := by rw [extract_mk, List.take_of_length_le (by rw [bl_length]; omega)]
theorem progPut_eq (s : By) (m : ByteArray) (hs : s.length ≤ big) (hm : m.size ≤ big) : refs_side_put.f (mk (ahd s)) (mk (bhd s)) (hasStar s) m = some (mk (putL s (bl m))) := by
  unfold refs_side_put.f ahd bhd putL
  cases h : hasStar s
  · rw [if_neg (by simp)]; simp
  · have hl := suf_length s h
    simp only [if_true]
    rw [← mk_bl m, mk_size, mk_size, if_pos (by rw [bl_length]; unfold big at *; omega), mk_append, mk_size, mk_size, if_pos (by rw [List.length_append, bl_length]; unfold big at *; omega), mk_append, bl_mk]
theorem progPut (s : By) (m : ByteArray) (w : World) (hs : s.length ≤ big) (hm : m.size ≤ big) :
    Calls Tryd.prog 34 #[.agg #[.string (mk (ahd s)), .string (mk (bhd s)), .bool (hasStar s)], .string m] w fun e w' => e = .returned (.string (mk (putL s (bl m)))) ∧ Below w.heap.size w w' :=
  refs_side_put.calls _ _ _ m _ w (progPut_eq s m hs hm)
end Go.Proofs.YtnolfopgijgpcaaDoor.Rm
/- The walk of refs.split: a side taken apart at its star. -/
namespace Go.Proofs.YtnolfopgijgpcaaDoor.Rm
set_option linter.unusedVariables false
open Go.Lib Go.RowKit Go.Proofs.YtnolfopgijgpcaaDoor.Nm Go.Proofs.YtnolfopgijgpcaaDoorW.PrintWords

theorem index_star : ∀ (s : By), Lib.indexByte s 42 = starI s
  | [] => rfl
  | b :: r => by
    have ih := index_star r
    unfold Lib.indexByte
    by_cases hb : b = 42
    · subst hb
      rw [if_pos (by simp)]
      have : pre ((42 : UInt8) :: r) = [] := by simp [pre, noStar]
      have h : hasStar ((42 : UInt8) :: r) = true := by unfold hasStar; rw [this]; simp
      rw [starI_pos h, this]; rfl
    · rw [if_neg (by simpa using hb), ih]
      have hb' : noStar b = true := by
        unfold noStar
        have : b.toNat ≠ 42 := fun e => hb (UInt8.toNat_inj.1 (by simpa using e))
        simpa using this
      have hp : pre (b :: r) = b :: pre r := by unfold pre; rw [List.takeWhile_cons_of_pos hb']
      have hh : hasStar (b :: r) = hasStar r := by unfold hasStar; rw [hp]; simp
      cases h : hasStar r
      · rw [starI_neg h, starI_neg (hh.trans h)]; rfl
      · rw [starI_pos h, starI_pos (hh.trans h), hp, if_neg (by simp)]; simp

set_option maxHeartbeats 1000000 in
theorem cut_star (s : ByteArray) (w : World) (hs : s.size ≤ big) :
    Calls Tryd.prog 58 #[.string s, .string ⟨#[42]⟩] w fun e w' => e = .returned (.tuple #[.string (mk (ahd (bl s))), .string (mk (bhd (bl s))), .bool (hasStar (bl s))]) ∧ ∃ n, w' = w.drewN n := by
  have hi := Tryd.stringslite_Index_one s 42 w
  rw [show s.data.toList = bl s from rfl, index_star] at hi
  have hsz : s.size ≤ 2305843009213693952 := hs
  cases h : hasStar (bl s)
  · rw [starI_neg h] at hi
    have HI := Lib.hid hi
    have H0 := Lib.hid h
    clear hi h
    go_enter Tryd.func58, Tryd.ntmps58
    go_wp2_with fail
    refine HI.out.mono ?_
    rintro e w' ⟨rfl, rfl⟩
    go_wp2_with fail
    go_ret3
    refine ⟨?_, 0, rfl⟩
    unfold ahd bhd
    rw [H0.out, if_neg (by simp), if_neg (by simp), mk_bl]; rfl
  · rw [starI_pos h] at hi
    have hl := suf_length _ h
    rw [bl_length] at hl
    obtain ⟨p, hp⟩ : ∃ p, (pre (bl s)).length = p := ⟨_, rfl⟩
    rw [hp] at hi hl
    have hps : p + 1 ≤ s.size := by omega
    have HI := Lib.hid hi
    have H0 := Lib.hid h
    have HP := Lib.hid hp
    clear hi h hp hl
    go_enter Tryd.func58, Tryd.ntmps58
    go_wp2_with fail
    refine HI.out.mono ?_
    rintro e w' ⟨rfl, rfl⟩
    go_wp2_with fail
    go_quiet (fail)
    go_wp2_with fail
    go_ret3
    refine ⟨?_, _, rfl⟩
    unfold ahd bhd
    rw [H0.out, if_pos rfl, if_pos rfl]
    have e1 : s.extract 0 p = mk (pre (bl s)) := by rw [extract_to, ← HP.out, ← pre_take]
    have e2 : s.extract (p + 1) s.size = mk (suf (bl s)) := by rw [extract_from, ← HP.out]; rfl
    rw [← e1, ← e2]
    rfl

theorem cut_star' (s : ByteArray) (w : World) (hs : s.size ≤ big) :
    Calls Tryd.prog 43 #[.string s, .string ⟨#[42]⟩] w fun e w' => e = .returned (.tuple #[.string (mk (ahd (bl s))), .string (mk (bhd (bl s))), .bool (hasStar (bl s))]) ∧ ∃ n, w' = w.drewN n := by
  have HC := Lib.hid (cut_star s w hs)
  go_enter Tryd.func43, Tryd.ntmps43
  go_wp2_with fail
  refine HC.out.mono ?_
  rintro e w' ⟨rfl, n, rfl⟩
  go_wp2_with fail
  go_ret3
  exact ⟨rfl, n, rfl⟩

/-- refs.split: what it leaves, to the sign. -/
theorem split_exact (s : ByteArray) (w : World) (hs : s.size ≤ big) :
    Calls Tryd.prog 32 #[.string s] w fun e w' => e = .returned (.agg #[.string (mk (ahd (bl s))), .string (mk (bhd (bl s))), .bool (hasStar (bl s))]) ∧
      ∃ n, w' = (w.drewN n).alloc (.cells #[.string (mk (ahd (bl s))), .string (mk (bhd (bl s))), .bool (hasStar (bl s))] 65) := by
  go_enter Tryd.func32, Tryd.ntmps32
  go_wp2_with fail
  refine (cut_star' s _ hs).mono ?_
  rintro e w' ⟨rfl, n, rfl⟩
  rw [show (w.alloc (Obj.cells #[Value.string ⟨#[]⟩, Value.string ⟨#[]⟩, Value.bool false] 65)).drewN n = (w.drewN n).alloc (Obj.cells #[Value.string ⟨#[]⟩, Value.string ⟨#[]⟩, Value.bool false] 65) from rfl]
  obtain ⟨wd, hwd⟩ : ∃ wd, w.drewN n = wd := ⟨_, rfl⟩
  have hsz : w.heap.size = wd.heap.size := by rw [← hwd]; rfl
  have HW := Lib.hid hwd
  rw [hwd, hsz]
  clear hwd hsz
  go_wp2_with fail
  refine bodyPost_ret (v := .agg #[.string (mk (ahd (bl s))), .string (mk (bhd (bl s))), .bool (hasStar (bl s))]) (by simp [results, Tryd.results32, go_sem]) rfl ⟨rfl, n, ?_⟩
  rw [HW.out]
/-- refs.split. -/
theorem split_walk (s : ByteArray) (w : World) (hs : s.size ≤ big) :
    Calls Tryd.prog 32 #[.string s] w fun e w' => e = .returned (.agg #[.string (mk (ahd (bl s))), .string (mk (bhd (bl s))), .bool (hasStar (bl s))]) ∧ Below w.heap.size w w' :=
  (split_exact s w hs).mono fun e w' ⟨h, n, hw⟩ => ⟨h, hw ▸ (pw_below_drewN (Below.refl _ _) n).alloc (Nat.le_refl _) _⟩
end Go.Proofs.YtnolfopgijgpcaaDoor.Rm
