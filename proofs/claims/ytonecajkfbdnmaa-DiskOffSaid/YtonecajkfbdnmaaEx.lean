/- Plain law of DiskOff: a disk and its twin, whose power goes off at a stroke. No program. -/
import Derived.Test.YtonecajkfbdnmaaEv
import Derived.Test.YtonecajkfbdnmaaEy
import Derived.Test.YtonecajkfbdnmaaRows
import Derived.Deep.DeepHandedRow
import Derived.Deep.DeepWitnessRowRef
import Derived.ProofKit
import Derived.SizedLaws
import Derived.OpenShut
import Derived.Carry
namespace Go.Proofs.Ytonecajkfbdnmaa.Dk
set_option linter.unusedVariables false
set_option linter.unusedSimpArgs false

/-- The same, without power. -/
def Dk.dead (d : Dk) : Dk := { d with off := true }
theorem dead_crashF (d : Dk) : ∀ (m : AM) (r : List Int), d.dead.crashFiles m r = d.crashFiles m r
  | [], _ => rfl
  | (a, g) :: m, r => by
    show (a, d.part g (nextP r (d.file g).units.length).1) :: d.dead.crashFiles m (nextP r (d.file g).units.length).2 = (a, d.part g (nextP r (d.file g).units.length).1) :: d.crashFiles m (nextP r (d.file g).units.length).2
    rw [dead_crashF d m]
theorem dead_crash (d : Dk) (l : List Int) : d.dead.crash l = d.crash l := by
  unfold Dk.crash
  exact dead_crashF d _ _
theorem like_on {a : Dk} (ho : a.off = false) (hp : a.plan.off ≤ 0) (s c : Nat) (p : Pl) (hq : ¬ (c : Int) + 1 = p.off) : (a.like s c p).tick = a.tick.like (s + 1) (c + 1) p := by
  have h2 := tick_off hp
  have h1 : (a.like s c p).tick.off = false := by
    show decide ((c : Int) + 1 = p.off) = false
    simp [hq]
  show ({ (a.like s c p) with strokes := s + 1, count := c + 1, off := (a.like s c p).tick.off } : Dk) = { a.tick with strokes := s + 1, count := c + 1, plan := p }
  rw [h1]
  show _ = ({ a with strokes := s + 1, count := c + 1, plan := p, off := a.tick.off } : Dk)
  rw [h2]; rfl
theorem like_off {a : Dk} (s c : Nat) (p : Pl) (hq : (c : Int) + 1 = p.off) : (a.like s c p).tick = (a.tick.like (s + 1) (c + 1) p).dead := by
  have h1 : (a.like s c p).tick.off = true := by
    show decide ((c : Int) + 1 = p.off) = true
    simp [hq]
  show ({ (a.like s c p) with strokes := s + 1, count := c + 1, off := (a.like s c p).tick.off } : Dk) = _
  rw [h1]; rfl
/-- A call and its twin's, whose power may go off at it. -/
def OffGoes (k : Int) (a : Dk) (s c : Nat) (p : Pl) (r r' : Dk × Nat) : Prop :=
  (countedB r.2 = false ∧ r'.2 = r.2 ∧ r'.1 = r.1.like s c p) ∨
  (countedB r.2 = true ∧ ¬ (c : Int) + 1 = p.off ∧ r'.2 = r.2 ∧ r'.1 = r.1.like (s + 1) (c + 1) p) ∨
  (countedB r.2 = true ∧ (c : Int) + 1 = p.off ∧ r'.2 = 115 ∧ r'.1.off = true ∧ r'.1.strokes = s + 1 ∧ ∀ l, r'.1.crash l = if k = 3 ∨ k = 4 then a.crash l else r.1.crash l)
theorem OffGoes.stay {k : Int} {a : Dk} {s c : Nat} {p : Pl} {e : Nat} (he : countedB e = false) : OffGoes k a s c p (a, e) (a.like s c p, e) := .inl ⟨he, rfl, rfl⟩
theorem OffGoes.go {k : Int} {a : Dk} (ho : a.off = false) (hp : a.plan.off ≤ 0) {s c : Nat} {p : Pl} (G : Dk → Dk) {e : Nat} (he : countedB e = true) (h1 : G (a.tick.like (s + 1) (c + 1) p) = (G a.tick).like (s + 1) (c + 1) p)
    (h2 : G ((a.tick.like (s + 1) (c + 1) p).dead) = ((G a.tick).like (s + 1) (c + 1) p).dead) (hk : ¬ (k = 3 ∨ k = 4)) : OffGoes k a s c p (G a.tick, e) (G (a.like s c p).tick, if (a.like s c p).tick.off then 115 else e) := by
  by_cases hq : (c : Int) + 1 = p.off
  · right; right
    rw [like_off s c p hq]
    refine ⟨he, hq, rfl, by show (G _).off = true; rw [h2]; rfl, by show (G _).strokes = _; rw [h2]; rfl, fun l => ?_⟩
    rw [if_neg hk]
    show (G _).crash l = _
    rw [h2, dead_crash, like_crash]
  · right; left
    have h9 := like_on ho hp s c p hq
    have h3 : (a.like s c p).tick.off = false := by rw [h9]; exact tick_off hp
    rw [h3, h9]
    exact ⟨he, hq, rfl, h1⟩
/-- What makes something safe. -/
theorem OffGoes.safe {k : Int} {a : Dk} (ho : a.off = false) (hp : a.plan.off ≤ 0) {s c : Nat} {p : Pl} (G : Dk → Dk) (h1 : G (a.tick.like (s + 1) (c + 1) p) = (G a.tick).like (s + 1) (c + 1) p) (hk : k = 3 ∨ k = 4) :
    OffGoes k a s c p (if a.tick.off then a.tick else G a.tick, a.tick.told) (if (a.like s c p).tick.off then (a.like s c p).tick else G (a.like s c p).tick, (a.like s c p).tick.told) := by
  rw [told_0 hp, tick_off hp]
  by_cases hq : (c : Int) + 1 = p.off
  · right; right
    have h9 := like_off (a := a) s c p hq
    have h3 : (a.like s c p).tick.off = true := by rw [h9]; rfl
    have h4 : (a.like s c p).tick.told = 115 := by unfold Dk.told; rw [h3]; rfl
    rw [h4, h3, h9]
    refine ⟨rfl, hq, rfl, rfl, rfl, fun l => ?_⟩
    rw [if_pos hk]
    show ((a.tick.like (s + 1) (c + 1) p).dead).crash l = _
    rw [dead_crash, like_crash, tick_crash]
  · right; left
    have h9 := like_on ho hp s c p hq
    have h3 : (a.like s c p).tick.off = false := by rw [h9]; exact tick_off hp
    have h4 : (a.like s c p).tick.told = 0 := by unfold Dk.told; rw [h3]; rfl
    rw [h4, h3, h9]
    exact ⟨rfl, hq, rfl, h1⟩
theorem play_off {a : Dk} (ho : a.off = false) (hp : a.plan.off ≤ 0) (hf : a.plan.from_ ≤ 0) (s c : Nat) (p : Pl) (hpf : p.from_ ≤ 0) (o : POp) (hk : 1 ≤ o.kind ∧ o.kind ≤ 6) : OffGoes o.kind a s c p (a.play o) ((a.like s c p).play o) := by
  have ht0 := told_0 hp
  have hto := tick_off hp
  obtain ⟨k, hk2⟩ : ∃ k : Nat, o.kind = (k : Int) := ⟨o.kind.toNat, by omega⟩
  have hn : ¬ o.kind < 0 := by omega
  unfold Dk.play
  rw [if_neg hn, if_neg hn, hk2, Int.toNat_natCast]
  have hk3 : k = 1 ∨ k = 2 ∨ k = 3 ∨ k = 4 ∨ k = 5 ∨ k = 6 := by omega
  rcases hk3 with rfl | rfl | rfl | rfl | rfl | rfl
  · show OffGoes ((1 : Nat) : Int) a s c p (a.append o.name o.b) ((a.like s c p).append o.name o.b)
    have hpl : a.tick.planFull = false := by
      unfold Dk.planFull
      have : ¬ 0 < a.tick.plan.from_ := by show ¬ 0 < a.plan.from_; omega
      simp [this]
    have hpl1 : (a.like s c p).tick.planFull = false := by
      unfold Dk.planFull
      have : ¬ 0 < (a.like s c p).tick.plan.from_ := by show ¬ 0 < p.from_; omega
      simp [this]
    have key : ∀ (x : Option Nat) (e : Nat), a.find o.name = (x, e) → (e = 0 ∨ e = 112 ∧ a.names.length < 64) → OffGoes ((1 : Nat) : Int) a s c p (a.append o.name o.b) ((a.like s c p).append o.name o.b) := by
      intro x e hf he
      have h1 : ¬ (e ≠ 0 ∧ e ≠ 112) := by omega
      have h2 : ¬ (e = 112 ∧ 64 ≤ a.names.length) := by omega
      have h3 : ¬ (e = 112 ∧ 64 ≤ (a.like s c p).names.length) := h2
      by_cases hr : a.room - a.used < o.b.length
      · have e1 : a.append o.name o.b = (a.tick, 114) := by
          unfold Dk.append
          rw [hf]
          simp only [h1, h2, if_false]
          rw [if_pos (.inr hr), hto]; rfl
        have e2 : (a.like s c p).append o.name o.b = ((a.like s c p).tick, if (a.like s c p).tick.off then 115 else 114) := by
          unfold Dk.append
          rw [like_find, hf]
          simp only [h1, h3, if_false]
          rw [if_pos (.inr hr)]
        rw [e1, e2]
        exact OffGoes.go ho hp (fun d => d) rfl rfl rfl (by decide)
      · rcases x with _ | f
        · have e1 : a.append o.name o.b = ((a.tick.fresh.change (.makes o.name a.files.length)).setFile a.files.length (Dk.give o.b), 0) := by
            unfold Dk.append
            rw [hf]
            simp only [h1, h2, if_false]
            rw [if_neg (fun h => h.elim (fun h => by rw [hpl] at h; cases h) hr), ht0]
          have e2 : (a.like s c p).append o.name o.b = (((a.like s c p).tick.fresh.change (.makes o.name a.files.length)).setFile a.files.length (Dk.give o.b), (a.like s c p).tick.told) := by
            unfold Dk.append
            rw [like_find, hf]
            simp only [h1, h3, if_false]
            rw [if_neg (fun h => h.elim (fun h => by rw [hpl1] at h; cases h) hr)]
            rfl
          rw [e1, e2]
          exact OffGoes.go ho hp (fun d => (d.fresh.change (.makes o.name a.files.length)).setFile a.files.length (Dk.give o.b)) rfl rfl rfl (by decide)
        · have e1 : a.append o.name o.b = (a.tick.setFile f (Dk.give o.b), 0) := by
            unfold Dk.append
            rw [hf]
            simp only [h1, h2, if_false]
            rw [if_neg (fun h => h.elim (fun h => by rw [hpl] at h; cases h) hr), ht0]
          have e2 : (a.like s c p).append o.name o.b = ((a.like s c p).tick.setFile f (Dk.give o.b), (a.like s c p).tick.told) := by
            unfold Dk.append
            rw [like_find, hf]
            simp only [h1, h3, if_false]
            rw [if_neg (fun h => h.elim (fun h => by rw [hpl1] at h; cases h) hr)]
          rw [e1, e2]
          exact OffGoes.go ho hp (fun d => d.setFile f (Dk.give o.b)) rfl rfl rfl (by decide)
    have bad : ∀ e : Nat, countedB e = false → a.append o.name o.b = (a, e) → (a.like s c p).append o.name o.b = (a.like s c p, e) → OffGoes ((1 : Nat) : Int) a s c p (a.append o.name o.b) ((a.like s c p).append o.name o.b) := by
      intro e he h1 h2
      rw [h1, h2]
      exact OffGoes.stay he
    rcases find_cases a o.name with ⟨f, hf, _⟩ | ⟨hf, _⟩ | ⟨hf, _⟩ | ⟨hf, ho2⟩
    · exact key _ _ hf (.inl rfl)
    · by_cases hl : a.names.length < 64
      · exact key _ _ hf (.inr ⟨rfl, hl⟩)
      · have hl2 : 64 ≤ a.names.length := by omega
        have hl3 : 64 ≤ (a.like s c p).names.length := hl2
        exact bad 111 rfl (by unfold Dk.append; rw [hf]; simp [hl2]) (by unfold Dk.append; rw [like_find, hf]; simp [hl3])
    · exact bad 111 rfl (by unfold Dk.append; rw [hf]; simp) (by unfold Dk.append; rw [like_find, hf]; simp)
    · rw [ho] at ho2; cases ho2
  · show OffGoes ((2 : Nat) : Int) a s c p (a.cut o.name o.n) ((a.like s c p).cut o.name o.n)
    unfold Dk.cut
    rw [like_find]
    rcases find_cases a o.name with ⟨f, hf, _⟩ | ⟨hf, _⟩ | ⟨hf, _⟩ | ⟨hf, ho2⟩
    · rw [hf]
      show OffGoes ((2 : Nat) : Int) a s c p (if 0 ≤ o.n ∧ o.n ≤ (a.file f).seen.length then (a.tick.setFile f (Dk.cutF o.n.toNat), a.tick.told) else (a, 113)) (if 0 ≤ o.n ∧ o.n ≤ (a.file f).seen.length then ((a.like s c p).tick.setFile f (Dk.cutF o.n.toNat), (a.like s c p).tick.told) else (a.like s c p, 113))
      split
      · rw [ht0]; exact OffGoes.go ho hp (fun d => d.setFile f (Dk.cutF o.n.toNat)) rfl rfl rfl (by decide)
      · exact OffGoes.stay rfl
    · rw [hf]; exact OffGoes.stay rfl
    · rw [hf]; exact OffGoes.stay rfl
    · rw [ho] at ho2; cases ho2
  · show OffGoes ((3 : Nat) : Int) a s c p (a.sync o.name) ((a.like s c p).sync o.name)
    unfold Dk.sync
    rw [like_find]
    rcases find_cases a o.name with ⟨f, hf, _⟩ | ⟨hf, _⟩ | ⟨hf, _⟩ | ⟨hf, ho2⟩
    · rw [hf]
      exact OffGoes.safe ho hp (fun d => d.setFile f Dk.syncF) rfl (by decide)
    · rw [hf]; exact OffGoes.stay rfl
    · rw [hf]; exact OffGoes.stay rfl
    · rw [ho] at ho2; cases ho2
  · show OffGoes ((4 : Nat) : Int) a s c p a.syncNames (a.like s c p).syncNames
    unfold Dk.syncNames
    rw [show (a.like s c p).off = false from ho, ho]
    exact OffGoes.safe ho hp (fun d => { d with sure := chplay a.sure a.changes, changes := [] }) rfl (by decide)
  · show OffGoes ((5 : Nat) : Int) a s c p (a.rename o.name o.to_) ((a.like s c p).rename o.name o.to_)
    unfold Dk.rename
    rw [like_find]
    rcases find_cases a o.name with ⟨f, hf, _⟩ | ⟨hf, _⟩ | ⟨hf, _⟩ | ⟨hf, ho2⟩
    · rw [hf]
      cases hfb : fair o.to_
      · simp; exact OffGoes.stay rfl
      · by_cases e : o.name = o.to_
        · simp [e, ht0]; exact OffGoes.go ho hp (fun d => d) rfl rfl rfl (by decide)
        · simp [e, ht0]; exact OffGoes.go ho hp (fun d => d.change (.renames o.name o.to_)) rfl rfl rfl (by decide)
    · rw [hf]
      cases hfb : fair o.to_ <;> simp <;> exact OffGoes.stay rfl
    · rw [hf]; simp; exact OffGoes.stay rfl
    · rw [ho] at ho2; cases ho2
  · show OffGoes ((6 : Nat) : Int) a s c p (a.remove o.name) ((a.like s c p).remove o.name)
    unfold Dk.remove
    rw [like_find]
    rcases find_cases a o.name with ⟨f, hf, _⟩ | ⟨hf, _⟩ | ⟨hf, _⟩ | ⟨hf, ho2⟩
    · rw [hf]
      show OffGoes ((6 : Nat) : Int) a s c p (a.tick.change (.removes o.name), a.tick.told) ((a.like s c p).tick.change (.removes o.name), (a.like s c p).tick.told)
      rw [ht0]; exact OffGoes.go ho hp (fun d => d.change (.removes o.name)) rfl rfl rfl (by decide)
    · rw [hf]; exact OffGoes.stay rfl
    · rw [hf]; exact OffGoes.stay rfl
    · rw [ho] at ho2; cases ho2
/-- What the law's loop keeps till the power goes off. -/
structure Offing (off : Nat) (a b : Dk) (i n : Nat) : Prop where
  ona : On a (i * 4100)
  pl : a.plan = ⟨0, 0, 0⟩
  binv : b.Inv
  bbd : Bd b (i * 4100)
  lt : n < off
  tw : b = a.like n n ⟨off, 0, 0⟩
theorem Offing.start (off : Nat) (h : 0 < off) : Offing off (Dk.new 67108864) ((Dk.new 67108864).setPlan ⟨off, 0, 0⟩) 0 0 := by
  have hi := new_inv 67108864 (Nat.le_refl _)
  have hb := new_bd 67108864 (Nat.le_refl _)
  exact ⟨⟨hi, hb, rfl, Int.le_refl _⟩, rfl, ⟨⟨hi.ok.sn, hi.ok.ss, hi.ok.play, hi.ok.chs, hi.ok.lt, hi.ok.lts, hi.ok.ltc, hi.ok.nd, hi.ok.fl, hi.ok.few, hi.ok.room⟩, hi.pre, hi.big⟩, ⟨Nat.le_refl _, Nat.le_refl _, Nat.le_refl _, hb.units, hb.seen, hb.kept, hb.room⟩, h, rfl⟩
theorem Offing.img {off : Nat} {a b : Dk} {i n : Nat} (h : Offing off a b i n) : b.image = a.image := by
  rw [h.tw]; exact like_image a n n _
theorem Offing.crash {off : Nat} {a b : Dk} {i n : Nat} (h : Offing off a b i n) (l : List Int) : b.crash l = a.crash l := by
  rw [h.tw]; exact like_crash a n n _ l
theorem Offing.boff {off : Nat} {a b : Dk} {i n : Nat} (h : Offing off a b i n) : b.off = false := by
  rw [h.tw]; exact h.ona.off
/-- What is so once the power is off. -/
structure Gone (off : Nat) (a a' b' : Dk) (k : Int) (i : Nat) : Prop where
  ona : On a' ((i + 1) * 4100)
  inv : b'.Inv
  bd : Bd b' ((i + 1) * 4100)
  off_ : b'.off = true
  strokes : b'.strokes = off
  crash : ∀ l, b'.crash l = if k = 3 ∨ k = 4 then a.crash l else a'.crash l
theorem Offing.step {off : Nat} {a b : Dk} {i n : Nat} (h : Offing off a b i n) (o : POp) (hk : 1 ≤ o.kind ∧ o.kind ≤ 6) (hb : o.b.length ≤ 4096) :
    ((n + if countedB (a.play o).2 then 1 else 0) < off ∧ (b.play o).2 = (a.play o).2 ∧ Offing off (a.play o).1 (b.play o).1 (i + 1) (n + if countedB (a.play o).2 then 1 else 0)) ∨
    (n + 1 = off ∧ countedB (a.play o).2 = true ∧ (b.play o).2 = 115 ∧ Gone off a (a.play o).1 (b.play o).1 o.kind i) := by
  have hca := play_calm a o
  have hona : On (a.play o).1 ((i + 1) * 4100) := (h.ona.play o).mono (by omega)
  have hbi := play_inv h.binv o
  have hbb : Bd (b.play o).1 ((i + 1) * 4100) := (play_bd h.binv h.bbd o).mono (by omega)
  have hf : a.plan.from_ ≤ 0 := by rw [h.pl]; exact Int.le_refl _
  have hpl : (a.play o).1.plan = ⟨0, 0, 0⟩ := by rw [hca.plan]; exact h.pl
  have hlt := h.lt
  have hg := play_off h.ona.off h.ona.po hf n n ⟨off, 0, 0⟩ (Int.le_refl _) o hk
  rw [← h.tw] at hg
  rcases hg with ⟨h1, h2, h3⟩ | ⟨h1, h2, h3, h4⟩ | ⟨h1, h2, h3, h4, h5, h6⟩
  · left
    rw [h1]
    exact ⟨hlt, h2, hona, hpl, hbi, hbb, hlt, h3⟩
  · left
    have h2' : ¬ (n : Int) + 1 = (off : Int) := h2
    have h7 : n + 1 < off := by omega
    rw [h1]
    exact ⟨h7, h3, hona, hpl, hbi, hbb, h7, h4⟩
  · right
    have h2' : (n : Int) + 1 = (off : Int) := h2
    have h7 : n + 1 = off := by omega
    exact ⟨h7, h1, h3, hona, hbi, hbb, h4, by rw [h5, h7], h6⟩
/-! ### a disk that is off -/
theorem play_dead {d : Dk} (ho : d.off = true) (o : POp) (hk : 1 ≤ o.kind ∧ o.kind ≤ 6) : d.play o = (d, 115) := by
  obtain ⟨k, hk2⟩ : ∃ k : Nat, o.kind = (k : Int) := ⟨o.kind.toNat, by omega⟩
  have hn : ¬ o.kind < 0 := by omega
  have hf : ∀ n, d.find n = (none, 115) := fun n => by unfold Dk.find; rw [ho]; rfl
  unfold Dk.play
  rw [if_neg hn, hk2, Int.toNat_natCast]
  have hk3 : k = 1 ∨ k = 2 ∨ k = 3 ∨ k = 4 ∨ k = 5 ∨ k = 6 := by omega
  rcases hk3 with rfl | rfl | rfl | rfl | rfl | rfl
  · show d.append o.name o.b = _
    unfold Dk.append; rw [hf]; simp
  · show d.cut o.name o.n = _
    unfold Dk.cut; rw [hf]
  · show d.sync o.name = _
    unfold Dk.sync; rw [hf]
  · show d.syncNames = _
    unfold Dk.syncNames; rw [ho]; rfl
  · show d.rename o.name o.to_ = _
    unfold Dk.rename; rw [hf]; simp
  · show d.remove o.name = _
    unfold Dk.remove; rw [hf]
theorem append_dead {d : Dk} (ho : d.off = true) (n : ByteArray) (b : By) : d.append n b = (d, 115) := by
  have hf : ∀ n, d.find n = (none, 115) := fun n => by unfold Dk.find; rw [ho]; rfl
  unfold Dk.append; rw [hf]; simp
theorem setPlan_dead {d : Dk} (ho : d.off = true) (p : Pl) : d.setPlan p = d := by
  unfold Dk.setPlan; rw [ho]; rfl
end Go.Proofs.Ytonecajkfbdnmaa.Dk

namespace Go.Proofs.Ytonecajkfbdnmaa.Dk
open Go.Lib Go.RowKit Go.ChangeMaps Go.Proofs.Ytonecajkfbdnmaa.Mp Go.Proofs.YtonecajkfbdnmaaW.PrintWords Go.Proofs.YtonecajkfbdnmaaW.PrintLast Go.Proofs.YtonecajkfbdnmaaW.PrintMore Go.Proofs.Ytonecajkfbdnmaa.PDiskRoom Go.Proofs.Ytonecajkfbdnmaa.Dw
set_option linter.unusedVariables false
set_option linter.unusedSimpArgs false
set_option maxRecDepth 100000 in
set_option maxHeartbeats 4000000 in
theorem gone_walk (w0 : World) (own : Own) (w : World) (kd : Nat) (blk : Nat → Nat) (d : Dk) (h : Rep own w kd blk d) (hi : d.Inv) (B : Nat) (hbd : Bd d B) (hB : B ≤ 1000000000) (hoff : d.off = true) (A : Option Addr) (c : Nat) (l : List S58) (hl : l.length ≤ 1000)
    (hrow : ∀ own' W, Fr own own' w W → Kd.C (kO w0) W A l.length l ∧ Below w0.heap.size w0 W ∧ ∀ k, k < w0.heap.size → own' k = none) (hop : ∀ o ∈ l, OpOk o ∧ (1 ≤ o.f0 ∧ o.f0 ≤ 6) ∧ o.f5.length ≤ 4096) :
    Calls Try.prog 34 #[ptr kd, .slice A l.length c] w fun e w' => e = .returned (.bool true) ∧ Left own w kd d w' := by
  have HROW := Lib.hid hrow
  have HOP := Lib.hid hop
  have HH := Lib.hid h
  have HI := Lib.hid hi
  have HBD := Lib.hid hbd
  have HOFF := Lib.hid hoff
  clear hrow hop h hi hbd hoff
  unfold ptr
  go_enter Try.func34, Try.ntmps34
  go_wp2_with fail
  go_loopw [5] (fun v5 wr => ∃ (i : Nat) (own1 : Own) (blk1 : Nat → Nat), i ≤ l.length ∧ v5 = .int .i64 i ∧ Rep own1 wr kd blk1 d ∧ Fr own own1 w wr) (fun v5 _ => l.length - (RowKit.intOf v5).toNat)
  case atStart => exact ⟨0, own, blk, Nat.zero_le _, rfl, HH.out, Fr.refl _ _⟩
  case round =>
    obtain ⟨i, own1, blk1, hi, rfl, hr, hf⟩ := hrel
    have HR := Lib.hid hr
    have HF := Lib.hid hf
    clear hr hf
    by_cases hlt : i < l.length
    · have qi0 : (0 : Int) ≤ (i : Int) := by omega
      have qi1 : (i : Int) < (l.length : Int) := by omega
      obtain ⟨hC, hb0, hown⟩ := HROW.out own1 wr HF.out
      obtain ⟨ad, A5, c5, A9, c9, hA6, g0, g1, g2, g3, g4, g5, g6, g7, g8, g9, l5, C5, l9, C9⟩ := op_at hC i hlt
      obtain ⟨hook, hk16, hlen5⟩ := HOP.out l[i] (List.getElem_mem hlt)
      obtain ⟨o, ho⟩ : ∃ o, l[i] = o := ⟨_, rfl⟩
      rw [ho] at g0 g1 g2 g3 g4 g5 g6 g7 g8 g9 l5 C5 l9 C9 hook hk16 hlen5
      subst hA6
      have hpl := play_op own1 wr kd blk1 d HR.out HI.out.ok _ HBD.out hB o hook A5 c5 A9 c9 (Out.of_in C5 hb0 hown) hk16
      rw [play_dead HOFF.out (opOf o) hk16] at hpl
      have HPL := Lib.hid hpl
      unfold opV ptr at HPL
      obtain ⟨hk1, hk6⟩ := hk16
      clear ho C5 C9 hook l9 l5 hb0 hown hC hpl hlen5 hB
      go_wp2_with (first | (go_at_call 26; refine HPL.out.mono ?_; rintro e w10 ⟨rfl, own2, blk2, hr6, hf6⟩; have HR6 := Lib.hid hr6; have HF6 := Lib.hid hf6; clear hr6 hf6))
      go_roundw
      case rel => exact ⟨i + 1, own2, blk2, by omega, by go_num, HR6.out, HF.out.trans HF6.out⟩
      case measure => simp [RowKit.intOf]; omega
    · have qi1 : ¬ (i : Int) < (l.length : Int) := by omega
      have hpl := plan_walk own1 wr kd blk1 d HR.out ⟨0, 0, 0⟩
      rw [setPlan_dead HOFF.out] at hpl
      have HPL := Lib.hid hpl
      unfold encPl ptr at HPL
      clear hpl
      go_upto_region 7 with (fail)
      clear qi1 hlt hl
      go_wp2_with (first | (go_at_call 32; refine HPL.out.mono ?_; rintro e w6 ⟨rfl, own2, blk2, hr6, hf6⟩; have HR6 := Lib.hid hr6; have HF6 := Lib.hid hf6; clear hr6 hf6))
      have hap := append_walk own2 w6 kd blk2 d HR6.out HI.out.ok _ HBD.out hB ⟨#[97]⟩ (by unfold big; decide) none 0 [] ⟨Kd.C_nil _ _, fun ad e => by cases e⟩ (by decide)
      rw [append_dead HOFF.out] at hap
      have HAP := Lib.hid hap
      unfold ptr at HAP
      have HN := Lib.hid (fun n W => num_walk n W)
      clear hap
      go_wp2_with (first | (go_at_call 48; refine HAP.out.mono ?_; rintro e w7 ⟨rfl, own3, blk3, hr7, hf7⟩; have HR7 := Lib.hid hr7; have HF7 := Lib.hid hf7; clear hr7 hf7) | (go_at_call 13; refine (HN.out _ _).mono ?_; rintro e w8 ⟨rfl, rfl⟩))
      go_ret
      exact ⟨rfl, own3, blk3, HR7.out, HF.out.trans (HF6.out.trans HF7.out)⟩
end Go.Proofs.Ytonecajkfbdnmaa.Dk

namespace Go.Proofs.Ytonecajkfbdnmaa.Dk
open Go.Lib Go.RowKit Go.ChangeMaps Go.Proofs.Ytonecajkfbdnmaa.Mp Go.Proofs.YtonecajkfbdnmaaW.PrintWords Go.Proofs.YtonecajkfbdnmaaW.PrintLast Go.Proofs.YtonecajkfbdnmaaW.PrintMore Go.Proofs.Ytonecajkfbdnmaa.PDiskRoom Go.Proofs.Ytonecajkfbdnmaa.Dw
set_option linter.unusedVariables false
set_option linter.unusedSimpArgs false

abbrev namesOp : S58 := ⟨4, 0, 0, ⟨#[]⟩, ⟨#[]⟩, [], ⟨0, 0, 0⟩, []⟩
theorem namesOp_ok : OpOk namesOp := ⟨rfl, by decide, by unfold big; decide, by unfold big; decide, by decide⟩
abbrev namesCells : List Value := [.int .i64 4, .int .i64 0, .int .i64 0, .string ⟨#[]⟩, .string ⟨#[]⟩, .slice none 0 0, .int .i64 0, .int .i64 0, .int .i64 0, .slice none 0 0]
theorem names_Q (w : World) (P : Nat → Prop) : QK w P namesOp namesCells := ⟨none, 0, none, 0, rfl, Nat.le_refl _, Kd.C_nil _ _, Nat.le_refl _, fun ad e => by cases e⟩
theorem end_Q (w0 w7 : World) : QK (wEnd w7) (PEnd w0 w7) endOp (endCells w7) := end_M w0 w7 0 (fun _ => False)
/-- The two steps that are appended, in a block of their own. -/
abbrev twoArr (w7 : World) : Array Value := #[.int .i64 4, .int .i64 0, .int .i64 0, .string ⟨#[]⟩, .string ⟨#[]⟩, .slice none 0 0, .int .i64 0, .int .i64 0, .int .i64 0, .slice none 0 0, .int .i64 1, .int .i64 0, .int .i64 0, .string ⟨#[122]⟩, .string ⟨#[]⟩, .slice (some ⟨w7.heap.size, 0, none⟩) 3 3, .int .i64 0, .int .i64 0, .int .i64 0, .slice none 0 0]
abbrev wTwo (w7 : World) : World := (wEnd w7).alloc (.cells (twoArr w7) 58)
theorem two_reads (w0 w7 : World) : ReadsRow (QK (wEnd w7) (PEnd w0 w7)) 10 (wTwo w7) (some ⟨w7.heap.size + 1, 0, none⟩) 2 [namesOp, endOp] := by
  refine ⟨rfl, by decide, fun _ => ⟨_, rfl, fun j p hj => ?_⟩⟩
  have hnew : (wTwo w7).heap[w7.heap.size + 1]? = some (.cells (twoArr w7) 58 (0, 0)) := by
    have h := blk_new (wEnd w7) (Obj.cells (twoArr w7) 58 (0, 0))
    have hs : (wEnd w7).heap.size = w7.heap.size + 1 := by simp [wEnd]
    rw [hs] at h
    exact h
  match j, hj with
  | 0, hj =>
    obtain rfl := Option.some.inj hj
    refine ⟨namesCells, rfl, names_Q _ _, fun i u hu => ?_⟩
    have hi : i < 10 := (List.getElem?_eq_some_iff.1 hu).1
    have hc := blk_cell hnew i
    have e : (⟨w7.heap.size + 1, 0, none⟩ : Addr).add (0 * 10 + i) = ⟨w7.heap.size + 1, i, none⟩ := by unfold Addr.add; simp; intro h; omega
    rw [e, hc]
    rw [show twoArr w7 = (namesCells ++ endCells w7).toArray from rfl, List.getElem?_toArray]
    rw [List.getElem?_append_left (by exact hi)]
    exact hu
  | 1, hj =>
    obtain rfl := Option.some.inj hj
    refine ⟨endCells w7, rfl, end_Q _ _, fun i u hu => ?_⟩
    have hi : i < 10 := (List.getElem?_eq_some_iff.1 hu).1
    have hc := blk_cell hnew (10 + i)
    have e : (⟨w7.heap.size + 1, 0, none⟩ : Addr).add (1 * 10 + i) = ⟨w7.heap.size + 1, 10 + i, none⟩ := by unfold Addr.add; simp
    rw [e, hc]
    rw [show twoArr w7 = (namesCells ++ endCells w7).toArray from rfl, List.getElem?_toArray]
    rw [List.getElem?_append_right (by show 10 ≤ 10 + i; omega)]
    show (endCells w7)[10 + i - 10]? = some u
    rw [Nat.add_sub_cancel_left]
    exact hu
  | k + 2, hj => cases hj
set_option maxRecDepth 100000 in
set_option maxHeartbeats 16000000 in
theorem diskOff_walk (w0 : World) (A1 : Option Addr) (c1 : Nat) (l1 : List S58) (off : Int) (A2 : Option Addr) (c2 : Nat) (l2 : List Int) (A3 : Option Addr) (c3 : Nat) (l3 : List S58) (A4 : Option Addr) (c4 : Nat) (l4 : List Int)
    (hC1 : Kd.C k58 w0 A1 l1.length l1) (hl1 : l1.length ≤ 1000000000000000) (ho1 : ∀ o ∈ l1, OpPre o)
    (hC2 : Kd.C (Kd.int .i64) w0 A2 l2.length l2) (hlc2 : l2.length ≤ c2) (hp2 : ∀ x ∈ l2, -9223372036854775808 ≤ x ∧ x ≤ 9223372036854775807)
    (hC3 : Kd.C k58 w0 A3 l3.length l3) (hl3 : l3.length ≤ 1000000000000000) (ho3 : ∀ o ∈ l3, OpPre o) :
    Calls Try.prog 7 #[.agg #[.slice A1 l1.length c1, .int .i64 off, .slice A2 l2.length c2, .slice A3 l3.length c3, .slice A4 l4.length c4]] w0 fun e w' => e = .returned (.bool true) ∧ Below w0.heap.size w0 w' := by
  obtain ⟨hf1, hf2⟩ := within_bd off 40 (by omega) (by omega)
  obtain ⟨f, hf⟩ : ∃ f : Nat, withinI off 40 = (f : Int) := ⟨(withinI off 40).toNat, by omega⟩
  have HWF := Lib.hid (fun w => within_walk off 40 w (by omega) (by omega))
  rw [hf] at HWF hf2
  have hf20 : f < 40 := by omega
  have HF1 := Lib.hid (fun w (hb : Below w0.heap.size w0 w) => few_walk w0 w hb A1 c1 l1 hC1 hl1)
  have HO1 := Lib.hid (fun (o : S58) (h : o ∈ fewOps l1) => few_op ho1 h)
  have HF3 := Lib.hid (fun w (hb : Below w0.heap.size w0 w) => few_walk w0 w hb A3 c3 l3 hC3 hl3)
  have HO3 := Lib.hid (fun (o : S58) (h : o ∈ fewOps l3) => few_op ho3 h)
  have HCR := Lib.hid (fun (own : Own) (w : World) (kd : Nat) (blk : Nat → Nat) (d : Dk) (h : Rep own w kd blk d) (B : Nat) (hi : d.Inv) (hbd : Bd d B) (hB : B ≤ 1000000000) (hb : Below w0.heap.size w0 w) => crash_walk own w kd blk d h hi B hbd hB w0 hb A2 c2 l2 hC2 hlc2 hp2)
  have HOW := Lib.hid open_walk
  clear hC1 hC2 ho1 hp2 hlc2 hf hf1 hf2 hl1 hC3 hl3 ho3
  go_enter Try.func7, Try.ntmps7
  go_upto_region 1 with (fail)
  obtain ⟨wb, hwb⟩ : ∃ wb, w0.alloc (.cells #[.slice A1 l1.length c1, .int .i64 off, .slice A2 l2.length c2, .slice A3 l3.length c3, .slice A4 l4.length c4] 65) = wb := ⟨_, rfl⟩
  obtain ⟨H0, hH0⟩ : ∃ H, w0.heap.size = H := ⟨_, rfl⟩
  have hbb : Below w0.heap.size w0 wb := hwb ▸ below_alloc (Below.refl _ _) _
  have hnb : wb.heap[H0]? = some (.cells #[.slice A1 l1.length c1, .int .i64 off, .slice A2 l2.length c2, .slice A3 l3.length c3, .slice A4 l4.length c4] 65 (0, 0)) := by rw [← hwb, ← hH0]; exact blk_new w0 _
  have hszb : H0 < wb.heap.size := by rw [← hwb, ← hH0]; simp
  rw [hwb, hH0]
  have HBB := Lib.hid hbb
  have HH0 := Lib.hid hH0
  have HNB := Lib.hid hnb
  clear hwb hbb hnb hH0
  go_wp2_with fail
  refine (HOW.out _).mono ?_
  rintro e w2 ⟨ka, oa0, ba0, rfl, hr2, hb2, hn2⟩
  unfold ptr
  go_wp2_with fail
  refine (HOW.out _).mono ?_
  rintro e w3 ⟨kb, ob0, bb0, rfl, hr3, hb3, hn3⟩
  unfold ptr
  have htwo : Two w3 ka kb (Dk.new 67108864) (Dk.new 67108864) oa0 ob0 ba0 bb0 := ⟨hr2.below hb3, hr3, fun k r hk => by
    have h1 := hr2.lt k r hk
    cases e : ob0 k with
    | none => rfl
    | some x => have := hn3 k x e; omega⟩
  have hown0 : ∀ k, k < wb.heap.size → both oa0 ob0 k = none := fun k hk => both_none.2 ⟨by
    cases e : oa0 k with
    | none => rfl
    | some x => have := hn2 k x e; omega, by
    cases e : ob0 k with
    | none => rfl
    | some x => have h1 := hn3 k x e; have h2 := hb2.size; omega⟩
  have hb03 : Below wb.heap.size wb w3 := hb2.trans (hb3.mono hb2.size)
  have HTWO := Lib.hid htwo
  have HOWN0 := Lib.hid hown0
  have HB03 := Lib.hid hb03
  have hbox := blk_below HNB.out hb03
  have n1 := blk_cell hbox 1
  simp at n1
  have HBOX3 := Lib.hid hbox
  clear hr2 hb2 hn2 hr3 hb3 hn3 htwo hown0 hb03 hbox
  go_upto_region 5 with (first | (go_at_call 22; refine (HWF.out _).mono ?_; rintro e w5 ⟨rfl, q5, hw5⟩; have HB35 := Lib.hid (hw5 ▸ below_drewN' _ q5); clear hw5))
  obtain ⟨of, hof⟩ : ∃ t : Nat, 1 + f = t := ⟨_, rfl⟩
  have hof1 : (1 : Int) + (f : Int) = (of : Int) := by omega
  rw [hof1]
  have hofp : 0 < of := by omega
  have hof100 : of ≤ 100 := by omega
  obtain ⟨pl, hpl⟩ : ∃ pl : Pl, (⟨(of : Int), 0, 0⟩ : Pl) = pl := ⟨_, rfl⟩
  have htw5 := HTWO.out.below HB35.out
  have HTW5 := Lib.hid htw5
  have hplw : Calls Try.prog 32 #[.pointer (some ⟨kb, 0, none⟩), .agg #[.int .i64 (of : Int), .int .i64 0, .int .i64 0]] w5 fun e w' => e = .returned (.tuple #[]) ∧ Left ob0 w5 kb ((Dk.new 67108864).setPlan pl) w' := by
    have h9 := plan_walk ob0 w5 kb bb0 (Dk.new 67108864) htw5.rb pl
    rw [← hpl] at h9 ⊢
    exact h9
  have HPL := Lib.hid hplw
  have HPLN := Lib.hid hpl
  clear htw5 hplw hpl hof1 hf20 hof n1
  go_upto_region 6 with (first | (go_at_call 32; refine HPL.out.mono ?_; rintro e w6 ⟨rfl, hleft⟩; obtain ⟨ob1, bb1, htw6, hfr6⟩ := HTW5.out.right hleft; have HTW6 := Lib.hid htw6; have HFR6 := Lib.hid ((Fr.of_below (own := both oa0 ob0) HB35.out).trans hfr6); clear hleft htw6 hfr6))
  have hbox := (HFR6.out.block H0 (Nat.lt_of_lt_of_le hszb HB03.out.size) (HOWN0.out H0 hszb)).trans HBOX3.out
  have n0 := blk_cell hbox 0
  simp at n0
  have hb06 : Below w0.heap.size w0 w6 := HBB.out.trans (HB03.out.mono HBB.out.size |>.trans (HFR6.out.below (Nat.le_trans HBB.out.size HB03.out.size) (fun k hk => HOWN0.out k (Nat.lt_of_lt_of_le hk HBB.out.size))))
  have HB06 := Lib.hid hb06
  have HFW := Lib.hid (HF1.out w6 hb06)
  have HBOX6 := Lib.hid hbox
  clear hbox hb06
  have kc := fun (w : World) (C : Array Value) (n c : Nat) => Lib.run_convert_bytes_const (P := Try.prog) w 26 5 C n c Try.underlying26 Try.underlying5
  obtain ⟨l1f, hl1f⟩ : ∃ l, fewOps l1 = l := ⟨_, rfl⟩
  have hlen1 := fewOps_len l1
  rw [hl1f] at HFW HO1 hlen1
  clear hl1f
  go_wp2_with (first | (go_at_call 24; refine HFW.out.mono ?_; rintro e w7 ⟨v7, rfl, hr7, hb7⟩; obtain ⟨A7, c7, rfl⟩ := Kd.R_slice hr7; have HR7 := Lib.hid (Kd.R_below (end_R (HB06.out.trans (hb7.mono HB06.out.size)) hr7) (below_alloc (Below.refl (wEnd w7).heap.size (wEnd w7)) (Obj.cells (twoArr w7) 58 (0, 0)))); have HO7 := Lib.hid (fun k hk => (R_own_lt hr7 k hk).2); have HB7 := Lib.hid hb7; clear hr7 hb7) | (at_builtin; refine Kd.R_append_rows (kQ (wEnd w7) (PEnd w0 w7)) (Rr := QK (wEnd w7) (PEnd w0 w7)) (W := wTwo w7) (w0 := w6) w6.heap.size rfl (.tmp 39) (.tmp 44) 48 58 _ 128 rfl Try.underlying48 (info58Q _ _) rfl (show 0 < 10 by decide) (by decide) (.slice A7 l1f.length c7) l1f [namesOp, endOp] (some ⟨w7.heap.size + 1, 0, none⟩) 2 2 (fun k => w6.heap.size ≤ k) (fun _ => False) rfl (by simp [Act.eval]) HR7.out (two_reads w0 w7) (fun _ _ h => h) (fun _ hk => hk.elim) (fun k hk => Nat.le_trans (below_alloc (below_alloc HB7.out _) _).size hk) (below_alloc (below_alloc HB7.out _) _) (below_alloc (below_alloc HB7.out _) _).size (by omega) ?_; intro v8 w8 hr8 hb8 hg8 hat8; obtain ⟨A8, c8, rfl⟩ := Kd.R_slice hr8; have HR8 := Lib.hid hr8; have HB8 := Lib.hid hb8; have HG8 := Lib.hid hg8; clear hr8 hb8 hg8 hat8))
  obtain ⟨ops, hops⟩ : ∃ ops, l1f ++ [namesOp, endOp] = ops := ⟨_, rfl⟩
  have hlen : ops.length ≤ 202 := by rw [← hops, List.length_append]; show l1f.length + 2 ≤ 202; omega
  have HOP := Lib.hid (fun (o : S58) (h : o ∈ ops) => (show OpOk o ∧ (1 ≤ o.f0 ∧ o.f0 ≤ 6) ∧ o.f5.length ≤ 4096 from by
    rw [← hops] at h
    rcases List.mem_append.1 h with h | h
    · exact HO1.out o h
    · rcases List.mem_cons.1 h with rfl | h
      · exact ⟨namesOp_ok, by decide, by decide⟩
      · rw [List.mem_singleton.1 h]; exact ⟨endOp_ok, by decide, by decide⟩))
  have hlen2 : (l1f ++ [namesOp, endOp]).length = ops.length := by rw [hops]
  rw [hlen2, hops] at HR8
  have hlen3 : l1f.length + 2 = ops.length := by rw [← hlen2, List.length_append]; rfl
  rw [hlen3]
  clear hops hlen2 hlen3
  have hmv : ∀ k, PEnd w0 w7 k → w8.heap[k]? = (wEnd w7).heap[k]? := fun k hk => by
    have hs : (wEnd w7).heap.size = w7.heap.size + 1 := by simp [wEnd]
    have hb9 : Below (wEnd w7).heap.size (wEnd w7) (wTwo w7) := below_alloc (Below.refl _ _) _
    have h67 := HB7.out.size
    have h06 := HB06.out.size
    have hk1 : k < (wEnd w7).heap.size := by rw [hs]; rcases hk with hk | hk <;> omega
    rw [← hb9.block k hk1]
    refine HG8.out.block k (Nat.lt_of_lt_of_le hk1 hb9.size) (fun e => ?_)
    have h9 := HO7.out k e.symm
    rcases hk with hk | hk <;> omega
  have HRO := Lib.hid (R_kQ_move hmv HR8.out)
  obtain ⟨P, hP⟩ : ∃ P, PEnd w0 w7 = P := ⟨_, rfl⟩
  rw [hP] at HRO
  have HFR8 := Lib.hid (HFR6.out.trans (Fr.of_below HB8.out))
  have hPn : ∀ k, P k → k < w8.heap.size ∧ both oa0 ob1 k = none := fun k hk => by
    rw [← hP] at hk
    have h67 := HB7.out.size
    have h06 := HB06.out.size
    have h8 := HG8.out.size
    have hs : (wTwo w7).heap.size = w7.heap.size + 2 := by simp [wTwo, wEnd]
    rcases hk with hk | hk
    · exact ⟨by omega, HFR6.out.new k (Nat.lt_of_lt_of_le hk (Nat.le_trans HBB.out.size HB03.out.size)) (HOWN0.out k (Nat.lt_of_lt_of_le hk HBB.out.size))⟩
    · exact ⟨by omega, HTW6.out.above k (by omega)⟩
  have HPN := Lib.hid hPn
  have HTW8 := Lib.hid (HTW6.out.below HB8.out)
  clear hmv hP hPn HR8 HG8 HR7 n0
  have hst : Offing of (Dk.new 67108864) ((Dk.new 67108864).setPlan pl) 0 0 := by rw [← HPLN.out]; exact Offing.start of hofp
  have HST := Lib.hid hst
  clear hst
  have HKEEP := Lib.hid (fun (own' : Own) (W : World) (hf : Fr (both oa0 ob1) own' w8 W) => R_keep HRO.out HTW6.out.above hf)
  have HAT := Lib.hid (fun (own' : Own) (W : World) (hf : Fr (both oa0 ob1) own' w8 W) => (⟨HB06.out.trans ((HB8.out.mono HB06.out.size).trans (hf.below (Nat.le_trans HB06.out.size HB8.out.size) (fun k hk => HFR6.out.new k (Nat.lt_of_lt_of_le hk (Nat.le_trans HBB.out.size HB03.out.size)) (HOWN0.out k (Nat.lt_of_lt_of_le hk HBB.out.size))))), hf.block H0 (Nat.lt_of_lt_of_le hszb (Nat.le_trans HB03.out.size HFR8.out.size)) (HFR6.out.new H0 (Nat.lt_of_lt_of_le hszb HB03.out.size) (HOWN0.out H0 hszb)) |>.trans (blk_below HBOX6.out HB8.out)⟩ : Below w0.heap.size w0 W ∧ W.heap[H0]? = some (.cells #[.slice A1 l1.length c1, .int .i64 off, .slice A2 l2.length c2, .slice A3 l3.length c3, .slice A4 l4.length c4] 65 (0, 0))))
  have HOWN := Lib.hid (fun (own' : Own) (W : World) (hf : Fr (both oa0 ob1) own' w8 W) => (fun k hk => hf.new k (Nat.lt_of_lt_of_le hk (Nat.le_trans HBB.out.size (Nat.le_trans HB03.out.size HFR8.out.size))) (HFR6.out.new k (Nat.lt_of_lt_of_le hk (Nat.le_trans HBB.out.size HB03.out.size)) (HOWN0.out k (Nat.lt_of_lt_of_le hk HBB.out.size))) : ∀ k, k < w0.heap.size → own' k = none))
  have HOPS := Lib.hid (fun (own' : Own) (W : World) (hf : Fr (both oa0 ob1) own' w8 W) (i : Nat) (hi : i < ops.length) => by
    obtain ⟨ad, A5, c5, A9, c9, hA8, g0, g1, g2, g3, g4, g5, g6, g7, g8, g9, l5, C5, l9, hP5⟩ := opQ_at (Kd.R_reads' (HKEEP.out own' W hf)).2.2 i hi
    have hout : Out own' W A5 ops[i].f5 := ⟨bytes_move C5 (fun ad ha hn => by
      obtain ⟨h1, h2⟩ := HPN.out _ (hP5 ad ha hn)
      exact hf.block _ h1 h2), fun ad ha hn => by
      obtain ⟨h1, h2⟩ := HPN.out _ (hP5 ad ha hn)
      exact hf.new _ h1 h2⟩
    exact (⟨ad, A5, c5, A9, c9, hA8, g0, g1, g2, g3, g4, g5, g6, g7, g8, g9, hout⟩ : ∃ ad A5 c5 A9 c9, A8 = some ad ∧ W.cell? (ad.add (i * 10)) = some (.int .i64 ops[i].f0) ∧
    W.cell? ⟨(ad.add (i * 10)).block, (ad.add (i * 10)).off + 1, none⟩ = some (.int .i64 ops[i].f1) ∧ W.cell? ⟨(ad.add (i * 10)).block, (ad.add (i * 10)).off + 2, none⟩ = some (.int .i64 ops[i].f2) ∧
    W.cell? ⟨(ad.add (i * 10)).block, (ad.add (i * 10)).off + 3, none⟩ = some (.string ops[i].f3) ∧ W.cell? ⟨(ad.add (i * 10)).block, (ad.add (i * 10)).off + 4, none⟩ = some (.string ops[i].f4) ∧
    W.cell? ⟨(ad.add (i * 10)).block, (ad.add (i * 10)).off + 5, none⟩ = some (.slice A5 ops[i].f5.length c5) ∧ W.cell? ⟨(ad.add (i * 10)).block, (ad.add (i * 10)).off + 6, none⟩ = some (.int .i64 ops[i].f6.f0) ∧
    W.cell? ⟨(ad.add (i * 10)).block, (ad.add (i * 10)).off + 7, none⟩ = some (.int .i64 ops[i].f6.f1) ∧ W.cell? ⟨(ad.add (i * 10)).block, (ad.add (i * 10)).off + 8, none⟩ = some (.int .i64 ops[i].f6.f2) ∧
    W.cell? ⟨(ad.add (i * 10)).block, (ad.add (i * 10)).off + 9, none⟩ = some (.slice A9 ops[i].f7.length c9) ∧ Out own' W A5 ops[i].f5))
  go_loopw [7, 8] (fun v7 v8 wr => ∃ (i n : Nat) (a b : Dk) (oa ob : Own) (ba bb : Nat → Nat), i ≤ ops.length ∧ v8 = .int .i64 i ∧ v7 = .int .i64 n ∧ n ≤ i ∧ Offing of a b i n ∧ Two wr ka kb a b oa ob ba bb ∧ Fr (both oa0 ob1) (both oa ob) w8 wr) (fun _ v8 _ => ops.length - (RowKit.intOf v8).toNat)
  case atStart => exact ⟨0, 0, _, _, oa0, ob1, ba0, bb1, Nat.zero_le _, rfl, rfl, Nat.le_refl _, HST.out, HTW8.out, Fr.refl _ _⟩
  case round =>
    obtain ⟨i, n, a, b, oa, ob, ba, bb, hi, rfl, rfl, hni, hfl, htw, hfr⟩ := hrel
    have HFL := Lib.hid hfl
    have HTW := Lib.hid htw
    have HFR := Lib.hid hfr
    clear hfl htw hfr
    by_cases hlt : i < ops.length
    · have qi0 : (0 : Int) ≤ (i : Int) := by omega
      have qi1 : (i : Int) < (ops.length : Int) := by omega
      have hi250 : i ≤ 250 := by omega
      have hiA : i * 4100 ≤ 1000000000 := by omega
      have hiB : (i + 1) * 4100 ≤ 1000000000 := by omega
      have hiC : 2 * ((i + 1) * 4100) ≤ 1000000000 := by omega
      have HHI := Lib.hid (And.intro hi250 (And.intro hiA (And.intro hiB hiC)))
      obtain ⟨hook, hk16, hlen5⟩ := HOP.out ops[i] (List.getElem_mem hlt)
      have HOPI := Lib.hid (fun own' W hf => HOPS.out own' W hf i hlt)
      obtain ⟨o, ho⟩ : ∃ o, ops[i] = o := ⟨_, rfl⟩
      rw [ho] at hook hk16 hlen5 HOPI
      have HOOK := Lib.hid hook
      have HK16 := Lib.hid hk16
      have hstep := HFL.out.step (opOf o) HK16.out (by show (toBy o.f5).length ≤ 4096; rw [toBy_len]; exact hlen5)
      have n2 := blk_cell (HAT.out _ wr HFR.out).2 2
      simp at n2
      have HCRX := Lib.hid (HCR.out oa wr ka ba a HTW.out.ra (i * 4100) HFL.out.ona.inv HFL.out.ona.bd hiA (HAT.out _ wr HFR.out).1)
      unfold ptr at HCRX
      have HSTEP := Lib.hid hstep
      clear hook hk16 hlen5 ho hstep hi250 hiA hiB hiC
      go_upto_region 12 with (first | (go_at_call 21; refine HCRX.out.mono ?_; rintro e w10 ⟨v10, rfl, hr10, hb10⟩; obtain ⟨A10, c10, rfl⟩ := Kd.R_slice hr10; rw [List.length_map] at hr10; have HR10 := Lib.hid (R_img hr10); have HRB := Lib.hid hr10; have HB10 := Lib.hid hb10; clear hr10 hb10))
      obtain ⟨hi250, hiA, hiB, hiC⟩ := HHI.out
      have HFR10 := Lib.hid (HFR.out.trans (Fr.of_below HB10.out))
      have HTW10 := Lib.hid (HTW.out.below HB10.out)
      obtain ⟨ad, A5, c5, A9, c9, hA8, g0, g1, g2, g3, g4, g5, g6, g7, g8, g9, hout⟩ := HOPI.out _ w10 HFR10.out
      subst hA8
      have HPLA := Lib.hid (play_op oa w10 ka ba a HTW10.out.ra HFL.out.ona.inv.ok _ HFL.out.ona.bd hiA o HOOK.out A5 c5 A9 c9 hout.both.1 HK16.out)
      unfold opV ptr at HPLA
      have hmv : ∀ R : Dk × Nat, a.play (opOf o) = R → ∀ m, m = n + (if countedB R.2 then 1 else 0) → m ≤ i + 1 ∧ (countedB R.2 = true → m = n + 1) := fun R hR m hm => ⟨by rw [hm]; split <;> omega, fun h => by rw [hm, h]; rfl⟩
      have HMV := Lib.hid hmv
      obtain ⟨R, hR⟩ : ∃ R, a.play (opOf o) = R := ⟨_, rfl⟩
      obtain ⟨R', hR'⟩ : ∃ R', b.play (opOf o) = R' := ⟨_, rfl⟩
      have HRA := Lib.hid hR
      have HRA' := Lib.hid hR'
      rw [hR, hR'] at HSTEP
      rw [hR] at HPLA
      obtain ⟨a', e1⟩ := R
      obtain ⟨b', e2⟩ := R'
      have hn250 : n ≤ 250 := Nat.le_trans hni hi250
      clear hout hR hR' hi250 hiA hiB hiC hmv hni
      go_upto_region 13 with (first | (go_at_call 26; refine HPLA.out.mono ?_; rintro e w11 ⟨rfl, hleft⟩; obtain ⟨oa2, ba2, htw11, hfr11⟩ := HTW10.out.left hleft; have HTW11 := Lib.hid htw11; have HFR11 := Lib.hid (HFR10.out.trans hfr11); have HFA := Lib.hid hfr11; clear hleft htw11 hfr11))
      obtain ⟨ad', A5', c5', A9', c9', hA8', g0, g1, g2, g3, g4, g5, g6, g7, g8, g9, hout⟩ := HOPI.out _ w11 HFR11.out
      obtain rfl := Option.some.inj hA8'
      have HPLB := Lib.hid (play_op ob w11 kb bb b HTW11.out.rb HFL.out.binv.ok _ HFL.out.bbd HHI.out.2.1 o HOOK.out A5' c5' A9' c9' hout.both.2 HK16.out)
      unfold opV ptr at HPLB
      rw [HRA'.out] at HPLB
      clear hout hA8'
      go_upto_region 14 with (first | (go_at_call 26; refine HPLB.out.mono ?_; rintro e w12 ⟨rfl, hleft⟩; obtain ⟨ob2, bb2, htw12, hfr12⟩ := HTW11.out.right hleft; have HTW12 := Lib.hid htw12; have HFR12 := Lib.hid (HFR11.out.trans hfr12); have HFB := Lib.hid (HFA.out.trans hfr12); clear hleft htw12 hfr12))
      obtain ⟨ad', A5', c5', A9', c9', hA8', g0, _, _, _, _, _, _, _, _, _, _⟩ := HOPI.out _ w12 HFR12.out
      obtain rfl := Option.some.inj hA8'
      clear g1 g2 g3 g4 g5 g6 g7 g8 g9 hA8'
      go_cut [12] from 68 to 81 (fun v12 wx => v12 = .bool (decide (o.f0 = 3 ∨ o.f0 = 4)) ∧ wx = w12)
      case first =>
        by_cases p1 : o.f0 = 3
        · have q1 : (o.f0 == 3) = true := by simp [p1]
          have q2 : decide (o.f0 = 3 ∨ o.f0 = 4) = true := by simp [p1]
          have Q2 := Lib.hid q2
          clear p1 q2
          go_wp2_with fail
          go_meet
          case rel => exact ⟨by rw [Q2.out], rfl⟩
        · by_cases p2 : o.f0 = 4
          · have q1 : (o.f0 == 4) = true := by simp [p2]
            have q2 : decide (o.f0 = 3 ∨ o.f0 = 4) = true := by simp [p2]
            have Q2 := Lib.hid q2
            clear p2 q2
            go_wp2_with fail
            go_meet
            case rel => exact ⟨by rw [Q2.out], rfl⟩
          · have q2 : decide (o.f0 = 3 ∨ o.f0 = 4) = false := by simp [p1, p2]
            have Q2 := Lib.hid q2
            clear q2
            go_wp2_with fail
            go_meet
            case rel => exact ⟨by rw [Q2.out]; simp [p1, p2], rfl⟩
      case rest =>
        obtain ⟨rfl, hwe⟩ := hcut
        have hwe' := hwe.symm
        clear hwe
        subst hwe'
        obtain ⟨sf, hsf⟩ : ∃ sf, decide (o.f0 = 3 ∨ o.f0 = 4) = sf := ⟨_, rfl⟩
        have HSF := Lib.hid hsf
        rw [hsf]
        obtain ⟨m, hm⟩ : ∃ m, m = n + (if countedB e1 then 1 else 0) := ⟨_, rfl⟩
        obtain ⟨hmi, hmn⟩ := HMV.out _ HRA.out m hm
        have HMI := Lib.hid hmi
        have HMN := Lib.hid hmn
        have HCN := Lib.hid (fun W => counted_walk e1 W)
        have HCN0 := Lib.hid (counted_walk e1 w12)
        obtain ⟨cb, hcb⟩ : ∃ cb, countedB e1 = cb := ⟨_, rfl⟩
        rw [hcb] at HCN0 hm
        clear hsf hmi hmn g0
        go_upto_if 83 with (first | (go_at_call 33; refine HCN0.out.mono ?_; rintro e w13 ⟨rfl, m13, hw13⟩; have HB13 := Lib.hid (hw13 ▸ below_drewN' _ m13); clear hw13))
        go_cut [7] from 83 to 85 (fun v7 wx => v7 = .int .i64 m ∧ wx = w13)
        case first =>
          cases cb
          · go_wp2_with fail
            go_meet
            case rel => exact ⟨by rw [hm]; go_num, rfl⟩
          · go_wp2_with fail
            go_meet
            case rel => exact ⟨by rw [hm]; go_num, rfl⟩
        case rest =>
          obtain ⟨rfl, hwe⟩ := hcut
          have hwe' := hwe.symm
          clear hwe
          subst hwe'
          obtain ⟨hi250, hiA, hiB, hiC⟩ := HHI.out
          have HTW13 := Lib.hid (HTW12.out.below HB13.out)
          have HFR13 := Lib.hid (HFR12.out.trans (Fr.of_below HB13.out))
          rcases HSTEP.out with ⟨hlt2, heq, hoff⟩ | ⟨hnof, hcnt, h115, hgone⟩
          · have hm2 : m < of := by
              rw [hm]
              have h9 := hlt2
              rw [show countedB (a', e1).2 = cb from hcb] at h9
              exact h9
            have HOFF := Lib.hid (show Offing of a' b' (i + 1) m from by
              have h9 := hoff
              rw [show countedB (a', e1).2 = cb from hcb, ← hm] at h9
              exact h9)
            have heq2 : e2 = e1 := heq
            subst heq2
            have qm : (m : Int) < (of : Int) := by omega
            have qm2 : ¬ (m : Int) = (of : Int) := by omega
            have HI1 := Lib.hid (show i + 1 ≤ ops.length by omega)
            clear hlt2 heq hoff hm hm2 hiA hiB hiC hn250 hofp hof100 hlen hlen1
            go_wp2_with fail
            go_roundw
            case rel => exact ⟨i + 1, m, a', b', oa2, ob2, ba2, bb2, HI1.out, by go_num, rfl, HMI.out, HOFF.out, HTW13.out, HFR13.out⟩
            case measure => simp [RowKit.intOf]; omega
          · have hc' : countedB e1 = true := hcnt
            have hm1 : m = of := by rw [HMN.out hc']; exact hnof
            have he2 : e2 = 115 := h115
            subst he2
            have hcast : ((115 : Nat) : Int) = 115 := rfl
            rw [hcast]
            have HGO := Lib.hid hgone
            have HCN1 := Lib.hid (HCN.out w13)
            rw [hc'] at HCN1
            have qm : ¬ (m : Int) < (of : Int) := by omega
            have qm2 : (m : Int) = (of : Int) := by omega
            have hmo : (m : Int) = (of : Int) := qm2
            rw [hmo] at qm ⊢
            have HBZ := Lib.hid (Below.refl w13.heap.size w13)
            have HDEAD := Lib.hid hgone.off_
            clear hnof hcnt h115 hgone hm hm1 hmo qm2 hi250 hiA hiB hiC hn250 hc'
            go_upto_region 20 with (first | (go_at_call 33; refine HCN1.out.mono ?_; rintro e w14 ⟨rfl, m14, hw14⟩; have HBZ := Lib.hid (hw14 ▸ below_drewN' _ m14); clear hw14))
            have hbz := (HAT.out _ w14 (HFR13.out.trans (Fr.of_below HBZ.out)))
            have n2 := blk_cell hbz.2 2
            simp at n2
            obtain ⟨WT, hWT⟩ : ∃ WT, b'.crash l2 = WT := ⟨_, rfl⟩
            have hcr := HGO.out.crash l2
            rw [hWT] at hcr
            have hcr2 : WT = if sf = true then a.crash l2 else a'.crash l2 := by
              rw [hcr, ← HSF.out]
              show (if o.f0 = 3 ∨ o.f0 = 4 then a.crash l2 else a'.crash l2) = _
              by_cases hq : o.f0 = 3 ∨ o.f0 = 4 <;> simp [hq]
            have HWT := Lib.hid hWT
            have HWE := Lib.hid hcr2
            have HCRA := Lib.hid (HCR.out oa2 w14 ka ba2 a' (HTW13.out.below HBZ.out).ra _ HGO.out.ona.inv HGO.out.ona.bd HHI.out.2.2.1 hbz.1)
            unfold ptr at HCRA
            clear hWT hcr hcr2 hbz
            go_upto_region 21 with (first | (go_at_call 21; refine HCRA.out.mono ?_; rintro e w15 ⟨v15, rfl, hr15, hb15⟩; obtain ⟨A15, c15, rfl⟩ := Kd.R_slice hr15; rw [List.length_map] at hr15; have HR15 := Lib.hid hr15; have HB15 := Lib.hid hb15; clear hr15 hb15))
            have HFR15 := Lib.hid (HFR13.out.trans ((Fr.of_below HBZ.out).trans (Fr.of_below HB15.out)))
            have HFB15 := Lib.hid (HFB.out.trans ((Fr.of_below HB13.out).trans ((Fr.of_below HBZ.out).trans (Fr.of_below HB15.out))))
            have HTW15 := Lib.hid ((HTW13.out.below HBZ.out).below HB15.out)
            have HAB14 := Lib.hid ((HTW13.out.below HBZ.out).above)
            go_upto_if 114 with (fail)
            go_cut [13] from 114 to 115 (fun v13 wx => (∃ A c, v13 = .slice A WT.length c ∧ ∀ own' W, Fr (both oa2 ob2) own' w15 W → (Kd.C k28 W A WT.length (WT.map encF) ∧ WT.length ≤ c)) ∧ wx = w15)
            case first =>
              cases sf
              · have HWE2 := Lib.hid (show WT = a'.crash l2 from HWE.out)
                go_wp2_with fail
                go_meet
                case rel => exact ⟨⟨A15, c15, by rw [HWE2.out], fun own' W hf => by rw [HWE2.out]; exact R_img (R_keep HR15.out HAB14.out hf)⟩, rfl⟩
              · have HWE2 := Lib.hid (show WT = a.crash l2 from HWE.out)
                go_wp2_with fail
                go_meet
                case rel => exact ⟨⟨A10, c10, by rw [HWE2.out], fun own' W hf => by rw [HWE2.out]; exact R_img (R_keep HRB.out HTW.out.above (HFB15.out.trans hf))⟩, rfl⟩
            case rest =>
              obtain ⟨⟨A13, c13, rfl, hwant⟩, hwe⟩ := hcut
              have hwe' := hwe.symm
              clear hwe
              subst hwe'
              have HWANT := Lib.hid hwant
              have HBX := Lib.hid (Below.refl w15.heap.size w15)
              have HRD := Lib.hid (fun W (hb : Below w15.heap.size w15 W) => show Calls Try.prog 17 #[.pointer (some ⟨kb, 0, none⟩), .string ⟨#[97]⟩] W (fun e w' => (∃ v, e = .returned (.tuple #[v, .int .i64 115])) ∧ Below W.heap.size W w') from by
                have h9 := read_walk ob2 W kb bb2 b' (HTW15.out.below hb).rb HGO.out.inv.ok.lt HGO.out.inv.ok.sn (fun f hf => Nat.le_trans (HGO.out.bd.seen f hf) HHI.out.2.2.1) ⟨#[97]⟩ (by unfold big; decide)
                have h8 : (b'.read ⟨#[97]⟩).2 = 115 := by
                  unfold Dk.read Dk.find
                  rw [HDEAD.out]; rfl
                refine h9.mono ?_
                rintro e w' ⟨v, he, _, hb'⟩
                rw [h8] at he
                exact ⟨⟨v, he⟩, hb'⟩)
              have HLS := Lib.hid (fun W (hb : Below w15.heap.size w15 W) => show Calls Try.prog 16 #[.pointer (some ⟨kb, 0, none⟩)] W (fun e w' => e = .returned (.tuple #[.slice none 0 0, .int .i64 115]) ∧ w' = W) from list_off ob2 W kb bb2 b' (HTW15.out.below hb).rb HDEAD.out)
              have HSZ := Lib.hid (fun W (hb : Below w15.heap.size w15 W) => show Calls Try.prog 18 #[.pointer (some ⟨kb, 0, none⟩), .string ⟨#[110, 111, 116, 104, 105, 110, 103, 32, 104, 101, 114, 101]⟩] W (fun e w' => e = .returned (.tuple #[.int .i64 0, .int .i64 115]) ∧ ∃ m, w' = W.drewN m) from by
                have h9 := size_walk ob2 W kb bb2 b' (HTW15.out.below hb).rb HGO.out.inv.ok.lt HGO.out.inv.ok.sn ⟨#[110, 111, 116, 104, 105, 110, 103, 32, 104, 101, 114, 101]⟩ (by unfold big; decide)
                have h8 : b'.size ⟨#[110, 111, 116, 104, 105, 110, 103, 32, 104, 101, 114, 101]⟩ = (0, 115) := by
                  unfold Dk.size Dk.find
                  rw [HDEAD.out]; rfl
                rw [h8] at h9
                exact h9)
              have HN := Lib.hid (fun n W => num_walk n W)
              clear hwant
              go_upto_region 24 with (first | (go_at_call 17; refine (HRD.out _ HBX.out).mono ?_; rintro e w16 ⟨⟨v16, rfl⟩, hb16⟩; have HBX := Lib.hid (HBX.out.trans (hb16.mono HBX.out.size)); clear hb16))
              go_upto_region 25 with (first | (go_at_call 16; refine (HLS.out _ HBX.out).mono ?_; rintro e w17 ⟨rfl, rfl⟩))
              go_upto_region 26 with (first | (go_at_call 18; refine (HSZ.out _ HBX.out).mono ?_; rintro e w18 ⟨rfl, m18, hw18⟩; have HBX := Lib.hid (HBX.out.trans ((show Below _ _ w18 from hw18 ▸ below_drewN' _ m18).mono HBX.out.size)); clear hw18))
              go_upto_region 27 with (first | (go_at_call 13; refine (HN.out _ _).mono ?_; rintro e w19 ⟨rfl, rfl⟩))
              have HWB := Lib.hid (fun W (hb : Below w15.heap.size w15 W) => HWANT.out _ W (Fr.of_below hb))
              have hWl : ∀ x ∈ WT, x.2.length ≤ 1000000000 := fun x hx => by
                have h9 := HWE.out
                split at h9
                · rw [h9] at hx; exact Nat.le_trans (HFL.out.ona.crash_len l2 x hx) (Nat.le_trans (Nat.mul_le_mul_left 2 (Nat.mul_le_mul_right 4100 (Nat.le_succ i))) HHI.out.2.2.2)
                · rw [h9] at hx; exact Nat.le_trans (HGO.out.ona.crash_len l2 x hx) HHI.out.2.2.2
              have hW64 : WT.length ≤ 64 := by
                have h9 := HWE.out
                split at h9
                · rw [h9]; exact crash_64 HFL.out.ona l2
                · rw [h9]; exact crash_64 HGO.out.ona l2
              have HIMG := Lib.hid (fun W A B c c' (ra : Kd.C k28 W A WT.length (WT.map encF) ∧ WT.length ≤ c) (rb : Kd.C k28 W B WT.length (WT.map encF) ∧ WT.length ≤ c') => show Calls Try.prog 20 #[.slice A WT.length c, .slice B WT.length c'] W (fun e w' => e = .returned (.bool true) ∧ Below W.heap.size W w') from image_same WT A B c c' W ra rb (Nat.le_trans hW64 (by omega)) hWl)
              have HCB := Lib.hid (fun own' bb' W (hr : Rep own' W kb bb' b') (hb : Below w0.heap.size w0 W) => show Calls Try.prog 21 #[.pointer (some ⟨kb, 0, none⟩), .slice A2 l2.length c2] W (Rows WT W) from rows_of HWT.out (HCR.out own' W kb bb' b' hr _ HGO.out.inv HGO.out.bd HHI.out.2.2.1 hb))
              have HB0 := Lib.hid (fun W (hb : Below w15.heap.size w15 W) => (HAT.out _ W (HFR15.out.trans (Fr.of_below hb))))
              have HC1 := Lib.hid (HCB.out ob2 bb2 w19 (HTW15.out.below HBX.out).rb (HB0.out w19 HBX.out).1)
              have n2 := blk_cell (HB0.out w19 HBX.out).2 2
              simp at n2
              clear hWl hW64
              go_wp2_with (first | (go_at_call 21; refine HC1.out.mono ?_; rintro e w20 ⟨A20, c20, rfl, hrow, hb20⟩; have HRX := Lib.hid hrow; have HBX := Lib.hid (HBX.out.trans (hb20.mono HBX.out.size)); clear hrow hb20))
              obtain ⟨l3f, hl3f⟩ : ∃ l, fewOps l3 = l := ⟨_, rfl⟩
              have hlen3 := fewOps_len l3
              rw [hl3f] at HO3 HF3 hlen3
              clear hl3f n2
              refine (HIMG.out _ _ _ _ _ HRX.out (HWB.out _ HBX.out)).mono ?_
              rintro e w21 ⟨rfl, hb21⟩
              have HBX := Lib.hid (HBX.out.trans (hb21.mono HBX.out.size))
              have n3 := blk_cell (HB0.out w21 HBX.out).2 3
              simp at n3
              clear hb21
              have HFW3 := Lib.hid (HF3.out w21 (HB0.out w21 HBX.out).1)
              go_wp2_with (first | (go_at_call 24; refine HFW3.out.mono ?_; rintro e w22 ⟨v22, rfl, hr22, hb22⟩; obtain ⟨A22, c22, rfl⟩ := Kd.R_slice hr22; have HR22 := Lib.hid hr22; have HAB21 := Lib.hid ((HTW15.out.below HBX.out).rb.above); have HBX := Lib.hid (HBX.out.trans (hb22.mono HBX.out.size)); clear hr22 hb22))
              have hob : ∀ k, k < w0.heap.size → ob2 k = none := fun k hk => (both_none.1 (HOWN.out _ w15 HFR15.out k hk)).2
              have HGW := Lib.hid (gone_walk w0 ob2 w22 kb bb2 b' (HTW15.out.below HBX.out).rb HGO.out.inv _ HGO.out.bd HHI.out.2.2.1 HDEAD.out A22 c22 l3f (Nat.le_trans hlen3 (by omega)) (fun own' W hf => ⟨(Kd.R_reads' (R_keep HR22.out HAB21.out hf)).2.2, (HB0.out w22 HBX.out).1.trans (hf.below (HB0.out w22 HBX.out).1.size hob), fun k hk => hf.new k (Nat.lt_of_lt_of_le hk (HB0.out w22 HBX.out).1.size) (hob k hk)⟩) HO3.out)
              unfold ptr at HGW
              clear hob
              refine HGW.out.mono ?_
              rintro e w23 ⟨rfl, hleft⟩
              obtain ⟨ob3, bb3, htw23, hfr23⟩ := (HTW15.out.below HBX.out).right hleft
              have HTW23 := Lib.hid htw23
              have HFR23 := Lib.hid (HFR15.out.trans ((Fr.of_below HBX.out).trans hfr23))
              have HWT23 := Lib.hid (fun W (hb : Below w23.heap.size w23 W) => HWANT.out _ W ((Fr.of_below HBX.out).trans (hfr23.trans (Fr.of_below hb))))
              have HB23 := Lib.hid (fun W (hb : Below w23.heap.size w23 W) => (HAT.out _ W (HFR23.out.trans (Fr.of_below hb))))
              have HBY := Lib.hid (Below.refl w23.heap.size w23)
              have n2 := blk_cell (HB23.out w23 HBY.out).2 2
              simp at n2
              have HC2 := Lib.hid (HCB.out ob3 bb3 w23 htw23.rb (HB23.out w23 HBY.out).1)
              clear hleft htw23 hfr23 n3
              go_wp2_with (first | (go_at_call 21; refine HC2.out.mono ?_; rintro e w24 ⟨A24, c24, rfl, hrow, hb24⟩; have HRX := Lib.hid hrow; have HBY := Lib.hid hb24; clear hrow hb24))
              refine (HIMG.out _ _ _ _ _ HRX.out (HWT23.out _ HBY.out)).mono ?_
              rintro e w25 ⟨rfl, hb25⟩
              have HBY := Lib.hid (HBY.out.trans (hb25.mono HBY.out.size))
              have HST := Lib.hid (show Calls Try.prog 14 #[.pointer (some ⟨kb, 0, none⟩)] w25 (fun e w' => e = .returned (.int .i64 (of : Int)) ∧ w' = w25) from by
                have h9 := strokes_walk (HTW23.out.below HBY.out).rb
                rw [HGO.out.strokes] at h9
                exact h9)
              clear hb25
              go_wp2_with (first | (go_at_call 14; refine HST.out.mono ?_; rintro e w26 ⟨rfl, rfl⟩))
              go_ret
              exact ⟨rfl, (HB23.out _ HBY.out).1⟩
    · have hq : ¬ (i : Int) < (ops.length : Int) := by omega
      have hiA : i * 4100 ≤ 1000000000 := by omega
      have hiC : 2 * (i * 4100) ≤ 1000000000 := by omega
      have hnlt := HFL.out.lt
      have qn : (n : Int) < (of : Int) := by omega
      obtain ⟨wl, hwl⟩ : ∃ wl : World, wl = wr := ⟨_, rfl⟩
      subst hwl
      obtain ⟨I, hI⟩ : ∃ I, a.image = I := ⟨_, rfl⟩
      have hib : b.image = I := by rw [HFL.out.img, hI]
      obtain ⟨CR, hCR⟩ : ∃ CR, a.crash l2 = CR := ⟨_, rfl⟩
      have hcb : b.crash l2 = CR := by rw [HFL.out.crash, hCR]
      have hI64 := img_64 HFL.out.ona
      have hC64 := crash_64 HFL.out.ona l2
      have hIl := img_len HFL.out.ona
      have hCl := HFL.out.ona.crash_len l2
      rw [hI] at hI64 hIl
      rw [hCR] at hC64 hCl
      have HB00 := Lib.hid ((HAT.out _ wl HFR.out).1)
      have HSA := Lib.hid (fun p W (hp : p = ka ∨ p = kb) (hb : Below wl.heap.size wl W) => show Calls Try.prog 25 #[.pointer (some ⟨p, 0, none⟩)] W (Rows I W) from by
        rcases hp with rfl | rfl
        · exact seen_on (HTW.out.below hb).ra HFL.out.ona hiA hI
        · exact rows_of hib (seen_walk ob W _ bb b (HTW.out.below hb).rb HFL.out.binv.ok HFL.out.binv.fa _ HFL.out.bbd hiA HFL.out.boff))
      have HCA := Lib.hid (fun p W (hp : p = ka ∨ p = kb) (hb : Below wl.heap.size wl W) => show Calls Try.prog 21 #[.pointer (some ⟨p, 0, none⟩), .slice A2 l2.length c2] W (Rows CR W) from by
        have hbw := (HAT.out _ W (HFR.out.trans (Fr.of_below hb))).1
        rcases hp with rfl | rfl
        · exact rows_of hCR (HCR.out oa W _ ba a (HTW.out.below hb).ra _ HFL.out.ona.inv HFL.out.ona.bd hiA hbw)
        · exact rows_of hcb (HCR.out ob W _ bb b (HTW.out.below hb).rb _ HFL.out.binv HFL.out.bbd hiA hbw))
      have HI20 := Lib.hid (fun X W A B c c' (hx : X = I ∨ X = CR) (ra : Kd.C k28 W A X.length (X.map encF) ∧ X.length ≤ c) (rb : Kd.C k28 W B X.length (X.map encF) ∧ X.length ≤ c') => show Calls Try.prog 20 #[.slice A X.length c, .slice B X.length c'] W (fun e w' => e = .returned (.bool true) ∧ Below W.heap.size W w') from by
        rcases hx with rfl | rfl
        · exact image_same _ A B c c' W ra rb (by omega) (fun x hx => Nat.le_trans (hIl x hx) hiA)
        · exact image_same _ A B c c' W ra rb (by omega) (fun x hx => Nat.le_trans (hCl x hx) hiC))
      have HS := Lib.hid (fun W (hb : Below wl.heap.size wl W) => (⟨by
        have h9 := blk_cell (HAT.out _ W (HFR.out.trans (Fr.of_below hb))).2 2
        simp at h9
        exact h9, hb⟩ : W.cell? ⟨H0, 2, none⟩ = some (.slice A2 l2.length c2) ∧ Below wl.heap.size wl W))
      have HKP := Lib.hid (fun W W' (hs : W.cell? ⟨H0, 2, none⟩ = some (.slice A2 l2.length c2) ∧ Below wl.heap.size wl W) (hb : Below W.heap.size W W') => HS.out W' (hs.2.trans (hb.mono hs.2.size)))
      clear hI hib hCR hcb hI64 hC64 hIl hCl hiA hiC hlt hni hi HTW HFL HCR HAT HKEEP hnlt HOPS HOWN
      go_upto_region 28 with (fail)
      clear hq
      go_region_held3 (fun w' => w'.cell? ⟨H0, 2, none⟩ = some (.slice A2 l2.length c2) ∧ Below wl.heap.size wl w')
        (first | assumption | exact HS.out _ (below_drewN' _ 1) | exact HKP.out _ _ (by assumption) (by assumption))
        (first
          | (go_at_call 25; refine (HSA.out _ _ ?hp ?hbel).mono ?_; (case hp => (first | exact .inl rfl | exact .inr rfl)); (case hbel => exact And.right (by assumption)); rintro e wx ⟨Ax, cx, rfl, hrow, hbx⟩)
          | (go_at_call 21; refine (HCA.out _ _ ?hp ?hbel).mono ?_; (case hp => (first | exact .inl rfl | exact .inr rfl)); (case hbel => exact And.right (by assumption)); rintro e wx ⟨Ax, cx, rfl, hrow, hbx⟩)
          | (go_at_call 20; refine (HI20.out _ _ _ _ _ _ ?hx ?ra ?rb).mono ?_; (case hx => (first | exact .inl rfl | exact .inr rfl)); (case ra => (first | assumption | exact img_keep (by assumption) (by assumption))); (case rb => (first | assumption | exact img_keep (by assumption) (by assumption))); rintro e wx ⟨rfl, hbx⟩))
      all_goals
        rename_i hS
        go_wp2_with fail
        go_ret
        exact ⟨rfl, HB00.out.trans (hS.2.mono HB00.out.size)⟩
end Go.Proofs.Ytonecajkfbdnmaa.Dk

namespace Go.Proofs.Ytonecajkfbdnmaa.Dor
set_option linter.unusedVariables false
open Go.ChangeShapes Go.WideShapes Go.ChangeAt Go.RowKit Go.Lib Go.Deep Go.Proofs.Ytonecajkfbdnmaa.Dk Go.Proofs.Ytonecajkfbdnmaa.Dw
open Go.Proofs.YtonecajkfbdnmaaW.PrintWords

theorem own : ownKnob Try.prog.godebug = none := by kernel_rfl
set_option maxRecDepth 100000 in
theorem contract (H : Type) (enc : TypeId × Value → H) (W : World) (base : Nat) (args : Array Value) (ds gs : List (DataW H)) (before : List MemPlace)
    (hval : ∀ (j : Nat) t v, Try.f7.params[j]? = some t → args[j]? = some v → Value.okWide Try.prog W .any base t v)
    (hW : DataW.Whole enc Try.prog Try.f7.params.toList Rows.diskOffSpec.vars false W args.toList ds gs before)
    (hz : (DataW.weightsEach Try.prog (Try.f7.params.toList ++ (OpenSpec.ofChange Rows.diskOffSpec).bare.plain.varTypes Try.prog) (ds ++ gs)).all (· ≤ reachBytes) = true) :
    Calls Try.prog 7 args W fun e W' => ∃ v, e = .returned v ∧ Rows.diskOffSpec.post enc Try.prog Try.f7 false true false false W args v W' := by
  have hW' := hW
  have hlt := hW.lt
  obtain ⟨p, q, hA0, hV, rfl, hfz, hnd⟩ := hW
  have hA : DataW.TrodAll enc Try.prog W 0 (fun _ => true) true Try.f7.params.toList args.toList ds p := hA0
  rw [Try.params7] at hA hval hz
  obtain ⟨v0, d0, rfl, rfl, h0⟩ := trodAll_one hA
  obtain ⟨rfl, rfl⟩ := trodVars_none hV
  have hok := hval 0 65 v0 rfl rfl
  clear hA0 hval
  simp only [List.append_nil] at hW' hlt
  have fin : ∀ W', Below W.heap.size W W' → Rows.diskOffSpec.post enc Try.prog Try.f7 false true false false W #[v0] (.bool true) W' := fun W' bel =>
    ⟨_, _, _, [], _, [], hW', trodAll_mk1 (shut_bool Try.underlying4 _), trodAll_mk1 (Below.trod (by kernel_rfl) (by kernel_rfl) (of_decide_eq_true (by kernel_rfl)) h0 bel hlt), rfl, bel.frame _, fun h => by cases h⟩
  have hwt : ∀ k ∈ d0.weights Try.prog 65, k ≤ reachBytes := fun k hk => by
    have := List.all_eq_true.1 hz k (DataW.weights_mem_each (j := 0) (t := 65) (d := d0) rfl rfl k hk)
    exact of_decide_eq_true this
  have hbig : reachBytes ≤ big := by have := reachBytes_lt; unfold big; omega
  have hR := reachBytes_lt
  obtain ⟨A1, c1, l1, off, A2, c2, l2, A3, c3, l3, A4, c4, l4, hp⟩ := open_power reachBytes hbig hok h0 hwt
  have n1 := hp.n1
  have n3 := hp.n3
  obtain rfl := hp.v
  have walk := diskOff_walk W A1 c1 l1 off A2 c2 l2 A3 c3 l3 A4 c4 l4 hp.C1 (by omega) hp.o1 hp.C2 hp.c2 hp.p2 hp.C3 (by omega) hp.o3
  refine walk.mono fun e W' ⟨he, bel⟩ => ?_
  subst he
  exact ⟨_, rfl, fin W' bel⟩
theorem witness_row (os : Os) {H : Type} (enc : TypeId × Value → H) :
    (OpenSpec.ofChange Rows.diskOffSpec).preRow enc Try.prog Try.f7 Rows.diskOffRow.domain false Rows.diskOffRow.laid ((World.settled Try.prog os).forCall (fun _ _ => 0) ⟨#[], #[.agg #[.slice none 0 0, .int .i64 0, .slice none 0 0, .slice none 0 0, .slice none 0 0]], []⟩).memory #[.agg #[.slice none 0 0, .int .i64 0, .slice none 0 0, .slice none 0 0, .slice none 0 0]] := by
  have hw : (DataW.whole enc Try.prog ((World.settled Try.prog os).forCall (fun _ _ => 0) ⟨#[], #[.agg #[.slice none 0 0, .int .i64 0, .slice none 0 0, .slice none 0 0, .slice none 0 0]], []⟩).memory Try.f7.params.toList Rows.diskOffSpec.vars false #[Value.agg #[.slice none 0 0, .int .i64 0, .slice none 0 0, .slice none 0 0, .slice none 0 0]].toList 8).map (fun x => (x.1, x.2.1)) =
      some ([.agg [.nil, .lit (.int .i64 0), .nil, .nil, .nil]], []) := by kernel_rfl
  obtain ⟨⟨x1, x2, x3⟩, hx, hx1⟩ := Option.map_eq_some_iff.1 hw
  simp only [Prod.mk.injEq] at hx1
  obtain ⟨rfl, rfl⟩ := hx1
  exact OpenSpec.preRow_of_cond 8 hx (by kernel_rfl) (fun k hk => by cases hk) (by kernel_rfl) (laidMet_nil _ _)
set_option maxRecDepth 100000 in
set_option maxHeartbeats 2000000 in
theorem lifted (os : Os) (started : os.Started) (H : Type) (enc : TypeId × Value → H) (F : Stop.Interp) :
    ReturnsInHanded {} Try.checked os 7 .any ((OpenSpec.ofChange Rows.diskOffSpec).preRow enc Try.prog Try.f7 Rows.diskOffRow.domain false Rows.diskOffRow.laid) (((OpenSpec.ofChange Rows.diskOffSpec).at F).post enc Try.prog Try.f7 false true false false) := by
  refine returnsInHanded_of_row (C := Try.checked) (s := OpenSpec.ofChange Rows.diskOffSpec) own started (by kernel_rfl) Try.func7
    (witness_row_at (enc := enc) (C := Try.checked) false (World.settled Try.prog os) #[.agg #[.slice none 0 0, .int .i64 0, .slice none 0 0, .slice none 0 0, .slice none 0 0]] rfl (by kernel_rfl) (by kernel_rfl) (by kernel_rfl) (witness_row os enc)) ?_
  intro W base args ds gs before hval hW _ _ hz _ _ _
  exact contract H enc W base args ds gs before hval hW hz
theorem said : Rows.DiskOffSaid :=
  OpenClaim.holds_of_cond 7 Try.f7 rfl rfl rfl rfl rfl rfl rfl ⟨rfl, rfl, rfl, rfl, rfl⟩ rfl rfl rfl rfl rfl (by kernel_rfl) Try.func7 (by kernel_rfl)
    (of_decide_eq_true (by kernel_rfl)) (by unfold Func.isWrapper; first | (rw [if_pos (by decide +kernel)]; kernel_rfl) | (rw [if_neg (by decide +kernel)]; exact ⟨rfl, rfl⟩))
    (fun os started H enc _ F => by rw [OpenClaim.pre_eq_preRow]; exact lifted os started H enc F)
end Go.Proofs.Ytonecajkfbdnmaa.Dor
namespace Go.Proofs.Ytonecajkfbdnmaa
theorem diskOff_holds : Rows.DiskOffSaid := Dor.said
#print axioms diskOff_holds
end Go.Proofs.Ytonecajkfbdnmaa
