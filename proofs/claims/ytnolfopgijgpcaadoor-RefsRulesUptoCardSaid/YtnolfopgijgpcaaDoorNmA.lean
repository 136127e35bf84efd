/- Plain law: what a good name is, over lists of bytes: the automaton byte by byte, and sign by sign; both say the same of right UTF-8. No program. -/
import Derived.Lib.ValidLaws
namespace Go.Proofs.YtnolfopgijgpcaaDoor.Nm
open Go.Lib

def alnum (b : Nat) : Bool := (decide (97 ≤ b) && decide (b ≤ 122)) || (decide (65 ≤ b) && decide (b ≤ 90)) || (decide (48 ≤ b) && decide (b ≤ 57)) || (b == 95) || decide (128 ≤ b)
/-- May the part end behind this one? -/
def fin (last : Nat) : Bool := !(last == 47) && !(last == 46)
/-- May b stand behind last? -/
def step (last b : Nat) : Bool := if b = 47 then fin last else if b = 46 then fin last else if b = 45 then !(last == 47) else alnum b
def brun : List UInt8 → Nat → Bool
  | [], last => fin last
  | b :: r, last => step last b.toNat && brun r b.toNat
def rrunN : Nat → List UInt8 → Nat → Bool
  | 0, _, last => fin last
  | n + 1, l, last => if l = [] then fin last else step last (decodeL l).1 && rrunN n (l.drop (decodeL l).2) (decodeL l).1
def rrun (l : List UInt8) (last : Nat) : Bool := rrunN l.length l last

theorem rrunN_nil : ∀ n last, rrunN n [] last = fin last
  | 0, _ => rfl
  | _ + 1, _ => by simp [rrunN]
theorem rrunN_fuel : ∀ (n m : Nat) (l : List UInt8) (last : Nat), l.length ≤ n → l.length ≤ m → rrunN n l last = rrunN m l last
  | 0, m, l, last, hn, _ => by
    have : l = [] := List.eq_nil_of_length_eq_zero (by omega)
    subst this
    rw [rrunN_nil, rrunN_nil]
  | n + 1, 0, l, last, _, hm => by
    have : l = [] := List.eq_nil_of_length_eq_zero (by omega)
    subst this
    rw [rrunN_nil, rrunN_nil]
  | n + 1, m + 1, l, last, hn, hm => by
    unfold rrunN
    by_cases hne : l = []
    · simp [hne]
    · have hw := decodeL_width l
      have hl : 0 < l.length := List.length_pos_iff.2 hne
      rw [if_neg hne, if_neg hne, rrunN_fuel n m (l.drop (decodeL l).2) _ (by rw [List.length_drop]; omega) (by rw [List.length_drop]; omega)]
theorem rrun_nil (last : Nat) : rrun [] last = fin last := rfl
theorem rrun_step (l : List UInt8) (last : Nat) (hne : l ≠ []) : rrun l last = (step last (decodeL l).1 && rrun (l.drop (decodeL l).2) (decodeL l).1) := by
  have hl : 0 < l.length := List.length_pos_iff.2 hne
  have hw := decodeL_width l
  obtain ⟨n, hn⟩ : ∃ n, l.length = n + 1 := ⟨l.length - 1, by omega⟩
  unfold rrun
  rw [hn]
  show (if l = [] then _ else _) = _
  rw [if_neg hne, rrunN_fuel n (l.drop (decodeL l).2).length _ _ (by rw [List.length_drop]; omega) (Nat.le_refl _)]

/-- Two that no test tells apart. -/
def Like (a b : Nat) : Prop := (a = 47 ↔ b = 47) ∧ (a = 46 ↔ b = 46)
theorem fin_like {a b : Nat} (h : Like a b) : fin a = fin b := by
  unfold fin Like at *
  have e1 : (a == 47) = (b == 47) := by rw [Bool.eq_iff_iff]; simp; exact h.1
  have e2 : (a == 46) = (b == 46) := by rw [Bool.eq_iff_iff]; simp; exact h.2
  rw [e1, e2]
theorem step_like {a b : Nat} (h : Like a b) (c : Nat) : step a c = step b c := by
  have e1 : (a == 47) = (b == 47) := by rw [Bool.eq_iff_iff]; simp; exact h.1
  unfold step
  rw [fin_like h, e1]
theorem brun_like {a b : Nat} (h : Like a b) (l : List UInt8) : brun l a = brun l b := by
  cases l with
  | nil => exact fin_like h
  | cons c r => simp only [brun]; rw [step_like h]

theorem step_high (last b : Nat) (h : 128 ≤ b) : step last b = true := by
  unfold step alnum
  rw [if_neg (by omega), if_neg (by omega), if_neg (by omega)]
  simp [h]
/-- Bytes from 128 on are passed over. -/
theorem brun_high : ∀ (p r : List UInt8) (last : Nat), (∀ b ∈ p, 128 ≤ b.toNat) → p ≠ [] → ∀ c : Nat, 128 ≤ c → brun (p ++ r) last = brun r c
  | [], _, _, _, h, _, _ => absurd rfl h
  | [b], r, last, hp, _, c, hc => by
    have hb := hp b (by simp)
    simp only [List.cons_append, List.nil_append, brun, step_high last _ hb, Bool.true_and]
    exact brun_like (by unfold Like; omega) r
  | b :: d :: p, r, last, hp, _, c, hc => by
    have hb := hp b (by simp)
    show (step last b.toNat && brun (d :: p ++ r) b.toNat) = _
    rw [step_high last _ hb, Bool.true_and]
    exact brun_high (d :: p) r _ (fun x hx => hp x (by simp at hx ⊢; exact .inr hx)) (by simp) c hc

theorem encode_high (r : Int) (h0 : 128 ≤ r) : ∀ b ∈ encodeRune r, 128 ≤ b.toNat := by
  intro b hb
  unfold encodeRune at hb
  obtain ⟨x, hx, rfl⟩ := List.mem_map.1 hb
  have hx' : 128 ≤ x ∧ x ≤ 255 := by
    unfold encodeRuneZ at hx
    rw [if_neg (by omega)] at hx
    split at hx
    · simp at hx; omega
    · split at hx
      · simp at hx; omega
      · split at hx
        · simp at hx; omega
        · simp at hx; omega
  have : x.toNat.toUInt8.toNat = x.toNat := by
    simp [Nat.toUInt8, UInt8.toNat_ofNat']
    omega
  rw [this]
  omega

/-- At a byte from 128 on a right sign is from 128 on, and so is each of its bytes. -/
theorem decode_high (b : UInt8) (t : List UInt8) (hb : 128 ≤ b.toNat) (hv : ¬ ((decodeL (b :: t)).1 = 65533 ∧ (decodeL (b :: t)).2 = 1)) :
    128 ≤ (decodeL (b :: t)).1 ∧ (∀ c ∈ (b :: t).take (decodeL (b :: t)).2, 128 ≤ c.toNat) := by
  have he := encode_decode (b :: t) (by simp) hv
  have hw := decodeL_width (b :: t)
  have h1 : 128 ≤ (decodeL (b :: t)).1 := by
    refine Nat.le_of_not_lt fun hlt => ?_
    have e1 : encodeRune ((decodeL (b :: t)).1 : Int) = [((decodeL (b :: t)).1).toUInt8] := by
      unfold encodeRune encodeRuneZ
      rw [if_pos (by omega)]
      simp
    rw [e1] at he
    obtain ⟨n, hn⟩ : ∃ n, (decodeL (b :: t)).2 = n + 1 := ⟨(decodeL (b :: t)).2 - 1, by omega⟩
    rw [hn, List.take_succ_cons] at he
    injection he with he _
    rw [← he] at hb
    simp [Nat.toUInt8, UInt8.toNat_ofNat'] at hb
    omega
  refine ⟨h1, ?_⟩
  rw [← he]
  exact encode_high _ (by omega)

/-- OF RIGHT UTF-8 THE TWO SAY THE SAME. -/
theorem rrun_eq : ∀ (n : Nat) (l : List UInt8) (a b : Nat), l.length ≤ n → validD l = true → Like a b → rrun l a = brun l b
  | _, [], a, b, _, _, h => fin_like h
  | 0, _ :: _, _, _, hn, _, _ => by simp at hn
  | n + 1, c :: t, a, b, hn, hv, h => by
    rw [validD_step _ (by simp)] at hv
    have hne : ¬ ((decodeL (c :: t)).1 = 65533 ∧ (decodeL (c :: t)).2 = 1) := fun h => by simp [h] at hv
    rw [if_neg hne] at hv
    have hw := decodeL_width (c :: t)
    rw [rrun_step _ _ (by simp)]
    by_cases hc : c.toNat < 128
    · have ed := decodeL_ascii c t hc
      rw [ed] at hv ⊢
      simp only [List.drop_succ_cons, List.drop_zero] at hv ⊢
      rw [rrun_eq n t _ c.toNat (by simp at hn; omega) hv ⟨Iff.rfl, Iff.rfl⟩, step_like h]
      rfl
    · obtain ⟨h1, h2⟩ := decode_high c t (by omega) hne
      have hl : ((c :: t).drop (decodeL (c :: t)).2).length ≤ n := by rw [List.length_drop]; omega
      rw [rrun_eq n _ _ (decodeL (c :: t)).1 hl hv ⟨Iff.rfl, Iff.rfl⟩, step_high _ _ h1, Bool.true_and]
      have hs := brun_high ((c :: t).take (decodeL (c :: t)).2) ((c :: t).drop (decodeL (c :: t)).2) b h2 (by
        obtain ⟨m, hm⟩ : ∃ m, (decodeL (c :: t)).2 = m + 1 := ⟨(decodeL (c :: t)).2 - 1, by omega⟩
        rw [hm]; simp) _ h1
      rw [List.take_append_drop] at hs
      exact hs.symm

/-- A good name's bytes are good signs: none is below 32, none is 127. -/
theorem brun_clean : ∀ (l : List UInt8) (last : Nat), brun l last = true → ∀ b ∈ l, 32 ≤ b.toNat ∧ b.toNat ≠ 127
  | [], _, _, _, hb => by cases hb
  | c :: r, last, h, b, hb => by
    simp only [brun, Bool.and_eq_true] at h
    rcases List.mem_cons.1 hb with rfl | hb
    · have h1 := h.1
      unfold step alnum at h1
      split at h1
      · omega
      · split at h1
        · omega
        · split at h1
          · omega
          · simp at h1; omega
    · exact brun_clean r _ h.2 b hb

/-! ### parts -/
/-- The parts between slashes; cur: what has been read of the part. -/
def cut : List UInt8 → List UInt8 → List (List UInt8)
  | cur, [] => [cur]
  | cur, b :: r => if b.toNat = 47 then cur :: cut [] r else cut (cur ++ [b]) r
def steps : List UInt8 → Nat → Bool
  | [], _ => true
  | b :: r, last => step last b.toNat && steps r b.toNat
def lastOf : List UInt8 → Nat → Nat
  | [], last => last
  | b :: r, _ => lastOf r b.toNat
theorem steps_append : ∀ (p r : List UInt8) (last : Nat), steps (p ++ r) last = (steps p last && steps r (lastOf p last))
  | [], _, _ => by simp [steps, lastOf]
  | b :: p, r, last => by simp [steps, lastOf, steps_append p r, Bool.and_assoc]
theorem lastOf_append : ∀ (p r : List UInt8) (last : Nat), lastOf (p ++ r) last = lastOf r (lastOf p last)
  | [], _, _ => rfl
  | b :: p, r, last => by simp [lastOf, lastOf_append p r]
theorem brun_steps : ∀ (l : List UInt8) (last : Nat), brun l last = (steps l last && fin (lastOf l last))
  | [], _ => by simp [brun, steps, lastOf]
  | b :: r, last => by simp [brun, steps, lastOf, brun_steps r, Bool.and_assoc]
theorem cut_good : ∀ (l cur : List UInt8), (cut cur l).all (fun p => brun p 47) = (steps cur 47 && brun l (lastOf cur 47))
  | [], cur => by simp [cut, brun_steps, steps, lastOf]
  | b :: r, cur => by
    unfold cut
    split
    · rename_i hb
      rw [List.all_cons, cut_good r [], brun_steps cur]
      simp only [steps, lastOf, Bool.true_and, brun, hb]
      rw [Bool.and_assoc]
      rfl
    · rw [cut_good r (cur ++ [b]), steps_append, lastOf_append]
      simp [steps, lastOf, brun, Bool.and_assoc]
theorem cut_noslash : ∀ (l cur : List UInt8), (∀ b ∈ cur, b.toNat ≠ 47) → ∀ p ∈ cut cur l, ∀ b ∈ p, b.toNat ≠ 47
  | [], cur, h, p, hp, b, hb => by
    simp [cut] at hp
    subst hp
    exact h b hb
  | c :: r, cur, h, p, hp, b, hb => by
    unfold cut at hp
    split at hp
    · rcases List.mem_cons.1 hp with rfl | hp
      · exact h b hb
      · exact cut_noslash r [] (by simp) p hp b hb
    · rename_i hc
      exact cut_noslash r (cur ++ [c]) (fun x hx => by
        rcases List.mem_append.1 hx with hx | hx
        · exact h x hx
        · simp at hx; subst hx; exact hc) p hp b hb

def goodB (l : List UInt8) : Bool := decide (1 ≤ l.length) && decide (l.length ≤ 255) && validD l && !(l == [72, 69, 65, 68]) && brun l 47
end Go.Proofs.YtnolfopgijgpcaaDoor.Nm
