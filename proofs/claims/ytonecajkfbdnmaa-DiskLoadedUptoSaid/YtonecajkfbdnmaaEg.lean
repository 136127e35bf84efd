/- Plain law: what holds of a disk always is kept by every call. No program. -/
import Derived.Test.YtonecajkfbdnmaaEa
import Derived.Test.YtonecajkfbdnmaaEf
import Derived.Test.YtonecajkfbdnmaaPDiskRoomx3
import Derived.Test.YtonecajkfbdnmaaPDiskRoomx5
namespace Go.Proofs.Ytonecajkfbdnmaa.Dk
set_option linter.unusedVariables false
set_option linter.unusedSimpArgs false

/-! ### sums over names -/
def SW (W : Nat → Nat) (m : AM) : Nat := (m.map (fun x => W x.2)).sum
theorem SW_cons (W : Nat → Nat) (x : ByteArray × Nat) (m : AM) : SW W (x :: m) = W x.2 + SW W m := by simp [SW]
theorem SW_put (W : Nat → Nat) (k : ByteArray) (v : Nat) : ∀ (m : AM), Srt m → SW W (aput m k v) + ((aget m k).map W).getD 0 = SW W m + W v
  | [], _ => by simp [aput, aget, SW]
  | (a, f) :: r, h => by
    have h' := List.pairwise_cons.1 h
    have ih := SW_put W k v r h'.2
    unfold aput aget
    by_cases h1 : a = k
    · rw [if_pos h1, if_pos h1, SW_cons, SW_cons]; simp; omega
    · rw [if_neg h1, if_neg h1]
      by_cases h2 : bl k < bl a
      · rw [if_pos h2, aget_lt (fun x hx => List.lt_trans h2 (h'.1 x hx)), SW_cons]; simp; omega
      · rw [if_neg h2, SW_cons, SW_cons]; simp only at ih ⊢; omega
theorem SW_del (W : Nat → Nat) (k : ByteArray) : ∀ (m : AM), SW W (adel m k) + ((aget m k).map W).getD 0 = SW W m
  | [] => by simp [adel, aget, SW]
  | (a, f) :: r => by
    have ih := SW_del W k r
    unfold adel aget
    by_cases h1 : a = k
    · rw [if_pos h1, if_pos h1, SW_cons]; simp; omega
    · rw [if_neg h1, if_neg h1, SW_cons, SW_cons]; simp only at ih ⊢; omega
theorem used_SW (d : Dk) : d.used = SW (fun f => (d.file f).seen.length) d.names := rfl
theorem SW_congr {W W' : Nat → Nat} {m : AM} (h : ∀ x ∈ m, W x.2 = W' x.2) : SW W m = SW W' m := by
  unfold SW
  rw [List.map_congr_left (fun x hx => h x hx)]
/-- One file's weight turns. -/
theorem SW_one {W W' : Nat → Nat} (f : Nat) : ∀ (m : AM), (m.map (·.2)).Nodup → (∀ g, g ≠ f → W' g = W g) → ∀ n, (n, f) ∈ m → SW W' m + W f = SW W m + W' f
  | [], _, _, n, h => by simp at h
  | (a, g) :: r, hnd, hW, n, h => by
    rw [List.map_cons, List.nodup_cons] at hnd
    rw [SW_cons, SW_cons]
    by_cases e : g = f
    · subst e
      have : SW W' r = SW W r := SW_congr (fun x hx => hW x.2 (fun e => hnd.1 (List.mem_map.2 ⟨x, hx, e⟩)))
      simp only; omega
    · have hr : (n, f) ∈ r := by
        rcases List.mem_cons.1 h with h | h
        · exact absurd (Prod.mk.inj h).2.symm e
        · exact h
      have ih := SW_one f r hnd.2 hW n hr
      simp only [hW g e]; omega
theorem SW_none {W W' : Nat → Nat} {f : Nat} {m : AM} (hf : ∀ x ∈ m, x.2 ≠ f) (hW : ∀ g, g ≠ f → W' g = W g) : SW W' m = SW W m := SW_congr (fun x hx => hW x.2 (hf x hx))

/-! ### entries -/
theorem mem_put_iff {m : AM} (h : Srt m) (k : ByteArray) (v : Nat) (x : ByteArray × Nat) : x ∈ aput m k v ↔ x = (k, v) ∨ (x ∈ m ∧ x.1 ≠ k) := by
  obtain ⟨a, f⟩ := x
  rw [mem_aget (srt_put h k v), aget_put, mem_aget h]
  by_cases e : k = a
  · subst e; simp; exact ⟨fun h => h.symm, fun h => h.symm⟩
  · simp [e]; exact ⟨fun h => .inr ⟨h, fun q => e q.symm⟩, fun h => by
      rcases h with ⟨q, _⟩ | ⟨h, _⟩
      · exact absurd q.symm e
      · exact h⟩
theorem mem_del_iff {m : AM} (h : Srt m) (k : ByteArray) (x : ByteArray × Nat) : x ∈ adel m k ↔ x ∈ m ∧ x.1 ≠ k := by
  obtain ⟨a, f⟩ := x
  rw [mem_aget (srt_del h k), aget_del h, mem_aget h]
  by_cases e : k = a
  · subst e; simp
  · simp [e]; exact fun _ q => e q.symm
theorem nd_iff {m : AM} (h : Srt m) : (m.map (·.2)).Nodup ↔ ∀ x ∈ m, ∀ y ∈ m, x.2 = y.2 → x = y := by
  unfold List.Nodup
  rw [List.pairwise_map]
  constructor
  · intro hp x hx y hy e
    induction m with
    | nil => simp at hx
    | cons z r ih =>
      have h' := List.pairwise_cons.1 h
      have hp' := List.pairwise_cons.1 hp
      rcases List.mem_cons.1 hx with hx1 | hx1
      · rcases List.mem_cons.1 hy with hy1 | hy1
        · rw [hx1, hy1]
        · rw [hx1] at e; exact absurd e (hp'.1 y hy1)
      · rcases List.mem_cons.1 hy with hy1 | hy1
        · rw [hy1] at e; exact absurd e.symm (hp'.1 x hx1)
        · exact ih h'.2 hp'.2 hx1 hy1
  · intro hi
    refine List.Pairwise.imp_of_mem (fun {x y} hx hy hlt e => ?_) h
    have := hi x hx y hy e
    rw [this] at hlt
    exact lt_irrefl _ hlt

/-! ### the invariant of names -/
/-- What holds of the names at any time. -/
structure NOk (m : AM) (L : Nat) : Prop where
  srt : Srt m
  lt : ∀ x ∈ m, x.2 < L
  nd : (m.map (·.2)).Nodup
  few : m.length ≤ 64
  fa : ∀ x ∈ m, fair x.1 = true
theorem NOk.nil (L : Nat) : NOk [] L := ⟨List.Pairwise.nil, by simp, by simp, by simp, by simp⟩
theorem NOk.mono {m : AM} {L L' : Nat} (h : NOk m L) (hl : L ≤ L') : NOk m L' := ⟨h.srt, fun x hx => Nat.lt_of_lt_of_le (h.lt x hx) hl, h.nd, h.few, h.fa⟩
/-- May the change be made? -/
def Ch.fit (m : AM) (L : Nat) : Ch → Prop
  | .makes n f => f < L ∧ (∀ x ∈ m, x.2 ≠ f) ∧ m.length < 64 ∧ fair n = true
  | .renames a b => fair b = true
  | .removes a => True
theorem NOk.change {m : AM} {L : Nat} (h : NOk m L) (c : Ch) (hok : c.ok m) (hf : c.fit m L) : NOk (c.play m) L := by
  have hi := (nd_iff h.srt).1 h.nd
  cases c with
  | makes n f =>
    obtain ⟨h1, h2, h3, h4⟩ := hf
    have hs := srt_put h.srt n f
    refine ⟨hs, fun x hx => ?_, (nd_iff hs).2 (fun x hx y hy e => ?_), ?_, fun x hx => ?_⟩
    · rcases (mem_put_iff h.srt n f x).1 hx with rfl | ⟨hx, _⟩
      · exact h1
      · exact h.lt x hx
    · rcases (mem_put_iff h.srt n f x).1 hx with rfl | ⟨hx, hxk⟩
      · rcases (mem_put_iff h.srt n f y).1 hy with rfl | ⟨hy, hyk⟩
        · rfl
        · exact absurd e.symm (h2 y hy)
      · rcases (mem_put_iff h.srt n f y).1 hy with rfl | ⟨hy, hyk⟩
        · exact absurd e (h2 x hx)
        · exact hi x hx y hy e
    · show (aput m n f).length ≤ 64
      rcases put_len (m := m) n f with e | e
      · rw [e]; split <;> omega
      · exact absurd h.srt e
    · rcases (mem_put_iff h.srt n f x).1 hx with rfl | ⟨hx, _⟩
      · exact h4
      · exact h.fa x hx
  | renames a b =>
    obtain ⟨hab, f, hg⟩ := hok
    have hplay : Ch.play m (.renames a b) = adel (aput m b f) a := by show (match aget m a with | some f => adel (aput m b f) a | none => m) = _; rw [hg]
    rw [hplay]
    have hs1 := srt_put h.srt b f
    have hs := srt_del hs1 a
    have hma : (a, f) ∈ m := (mem_aget h.srt a f).2 hg
    have key : ∀ x, x ∈ adel (aput m b f) a → x = (b, f) ∨ (x ∈ m ∧ x.1 ≠ b ∧ x.1 ≠ a) := fun x hx => by
      obtain ⟨h1, h2⟩ := (mem_del_iff hs1 a x).1 hx
      rcases (mem_put_iff h.srt b f x).1 h1 with h1 | ⟨h1, h3⟩
      · exact .inl h1
      · exact .inr ⟨h1, h3, h2⟩
    refine ⟨hs, fun x hx => ?_, (nd_iff hs).2 (fun x hx y hy e => ?_), ?_, fun x hx => ?_⟩
    · rcases key x hx with rfl | ⟨hx, _⟩
      · exact h.lt (a, f) hma
      · exact h.lt x hx
    · rcases key x hx with rfl | ⟨hx, _, hxa⟩
      · rcases key y hy with rfl | ⟨hy, _, hya⟩
        · rfl
        · exact absurd (by rw [← hi _ hma y hy e]) hya
      · rcases key y hy with rfl | ⟨hy, _, hya⟩
        · exact absurd (by rw [hi x hx _ hma e]) hxa
        · exact hi x hx y hy e
    · have h1 : aget (aput m b f) a = some f := by rw [aget_put, if_neg (fun e => hab e.symm)]; exact hg
      have h2 := del_len h1
      rcases put_len (m := m) b f with e | e
      · have h4 := h.few
        split at e <;> omega
      · exact absurd h.srt e
    · rcases key x hx with rfl | ⟨hx, _⟩
      · exact hf
      · exact h.fa x hx
  | removes a =>
    obtain ⟨f, hg⟩ := hok
    have hs := srt_del h.srt a
    refine ⟨hs, fun x hx => h.lt x (mem_del hx), (nd_iff hs).2 (fun x hx y hy e => hi x (mem_del hx) y (mem_del hy) e), ?_, fun x hx => h.fa x (mem_del hx)⟩
    have h2 := del_len hg
    have := h.few
    show (adel m a).length ≤ 64
    omega

/-! ### the invariant of a disk -/
structure Dk.Inv (d : Dk) : Prop where
  ok : d.Ok
  pre : ∀ n, NOk (chplay d.sure (d.changes.take n)) d.files.length
  big : d.room ≤ 67108864
theorem Dk.Inv.nok {d : Dk} (h : d.Inv) : NOk d.names d.files.length := by
  have := h.pre d.changes.length
  rw [List.take_length] at this
  rw [h.ok.play]; exact this
theorem Dk.Inv.fa {d : Dk} (h : d.Inv) : ∀ x ∈ d.names, fair x.1 = true := h.nok.fa
theorem file_mem {d : Dk} {f : Nat} (hf : f < d.files.length) : d.file f ∈ d.files := by
  unfold Dk.file
  rw [List.getD_eq_getElem?_getD, List.getElem?_eq_getElem hf]
  exact List.getElem_mem hf
theorem tick_inv {d : Dk} (h : d.Inv) : d.tick.Inv := ⟨⟨h.ok.sn, h.ok.ss, h.ok.play, h.ok.chs, h.ok.lt, h.ok.lts, h.ok.ltc, h.ok.nd, h.ok.fl, h.ok.few, h.ok.room⟩, h.pre, h.big⟩
theorem setFile_seen (d : Dk) (f : Nat) (g : Fl → Fl) (k : Nat) : k ≠ f → ((d.setFile f g).file k).seen.length = (d.file k).seen.length := by
  intro hk
  unfold Dk.file Dk.setFile
  have e : ¬ f = k := fun e => hk e.symm
  simp [List.getD_eq_getElem?_getD, List.getElem?_modify, e]
theorem setFile_self (d : Dk) (f : Nat) (g : Fl → Fl) (hf : f < d.files.length) : (d.setFile f g).file f = g (d.file f) := by
  unfold Dk.file Dk.setFile
  simp [List.getD_eq_getElem?_getD, hf]
/-- How much is used when one file turns. -/
theorem used_setFile {d : Dk} (h : d.Ok) (f : Nat) (hf : f < d.files.length) (g : Fl → Fl) :
    ((∀ x ∈ d.names, x.2 ≠ f) ∧ (d.setFile f g).used = d.used) ∨ (d.setFile f g).used + (d.file f).seen.length = d.used + (g (d.file f)).seen.length := by
  by_cases hm : ∃ x ∈ d.names, x.2 = f
  · right
    obtain ⟨⟨n, k⟩, hx, e⟩ := hm
    have e' : k = f := e
    subst e'
    have := SW_one (W := fun k => (d.file k).seen.length) (W' := fun j => ((d.setFile k g).file j).seen.length) k d.names h.nd (fun j hj => setFile_seen d k g j hj) n hx
    rw [setFile_self d k g hf] at this
    exact this
  · left
    have hn : ∀ x ∈ d.names, x.2 ≠ f := fun x hx e => hm ⟨x, hx, e⟩
    exact ⟨hn, SW_none hn (fun j hj => setFile_seen d f g j hj)⟩
theorem setFile_inv {d : Dk} (h : d.Inv) (f : Nat) (hf : f < d.files.length) (g : Fl → Fl) (hg : (d.file f).ok → (g (d.file f)).ok) (hu : (d.setFile f g).used ≤ d.room) : (d.setFile f g).Inv := by
  have hl : (d.setFile f g).files.length = d.files.length := by simp [Dk.setFile]
  refine ⟨⟨h.ok.sn, h.ok.ss, h.ok.play, h.ok.chs, fun x hx => ?_, fun x hx => ?_, fun n k hx => ?_, h.ok.nd, fun x hx => ?_, h.ok.few, hu⟩, fun n => ?_, h.big⟩
  · rw [hl]; exact h.ok.lt x hx
  · rw [hl]; exact h.ok.lts x hx
  · rw [hl]; exact h.ok.ltc n k hx
  · obtain ⟨i, hi, rfl⟩ := List.getElem_of_mem hx
    rw [hl] at hi
    have e : (d.setFile f g).files[i]'(by rw [hl]; exact hi) = (d.setFile f g).file i := by
      unfold Dk.file; rw [List.getD_eq_getElem?_getD, List.getElem?_eq_getElem (by rw [hl]; exact hi)]; rfl
    rw [e]
    by_cases e2 : i = f
    · subst e2; rw [setFile_self d i g hf]; exact hg (h.ok.fl _ (file_mem hf))
    · have e3 : (d.setFile f g).file i = d.file i := by
        unfold Dk.file Dk.setFile
        have e : ¬ f = i := fun e => e2 e.symm
        simp [List.getD_eq_getElem?_getD, List.getElem?_modify, e]
      rw [e3]; exact h.ok.fl _ (file_mem hi)
  · rw [hl]; exact h.pre n
theorem fresh_used {d : Dk} (h : d.Ok) : d.fresh.used = d.used := by
  refine SW_congr (m := d.names) (W := fun k => (d.fresh.file k).seen.length) (W' := fun k => (d.file k).seen.length) (fun x hx => ?_)
  have := h.lt x hx
  unfold Dk.file Dk.fresh
  simp [List.getD_eq_getElem?_getD, List.getElem?_append_left this]
theorem fresh_inv {d : Dk} (h : d.Inv) : d.fresh.Inv := by
  have hl : d.fresh.files.length = d.files.length + 1 := by simp [Dk.fresh]
  refine ⟨⟨h.ok.sn, h.ok.ss, h.ok.play, h.ok.chs, fun x hx => ?_, fun x hx => ?_, fun n k hx => ?_, h.ok.nd, fun x hx => ?_, h.ok.few, ?_⟩, fun n => ?_, h.big⟩
  · have := h.ok.lt x hx; omega
  · have := h.ok.lts x hx; omega
  · have := h.ok.ltc n k hx; omega
  · rcases List.mem_append.1 hx with hx | hx
    · exact h.ok.fl x hx
    · rw [List.mem_singleton.1 hx]; exact ⟨trivial, rfl⟩
  · rw [fresh_used h.ok]; exact h.ok.room
  · exact (h.pre n).mono (by omega)
theorem chplay_all (m : AM) (l : List Ch) (c : Ch) (n : Nat) : chplay m ((l ++ [c]).take n) = chplay m (l.take n) ∨ chplay m ((l ++ [c]).take n) = c.play (chplay m l) := by
  by_cases h : n ≤ l.length
  · left; rw [List.take_append_of_le_length h]
  · right; rw [List.take_of_length_le (by simp; omega), chplay_snoc]
/-- How much is used behind a change of names. -/
theorem used_change {d : Dk} (h : d.Ok) (c : Ch) (hok : c.ok d.names) (hz : ∀ n f, c = .makes n f → (d.file f).seen.length = 0) : (d.change c).used ≤ d.used := by
  show SW (fun k => (d.file k).seen.length) (c.play d.names) ≤ SW (fun k => (d.file k).seen.length) d.names
  cases c with
  | makes n f =>
    have h1 := SW_put (fun k => (d.file k).seen.length) n f d.names h.sn
    have h2 := hz n f rfl
    have h3 : aget d.names n = none := hok
    rw [h3] at h1
    show SW _ (aput d.names n f) ≤ _
    simp at h1
    omega
  | renames a b =>
    obtain ⟨hab, f, hg⟩ := hok
    have hplay : Ch.play d.names (.renames a b) = adel (aput d.names b f) a := by show (match aget d.names a with | some f => adel (aput d.names b f) a | none => d.names) = _; rw [hg]
    rw [hplay]
    have h1 := SW_put (fun k => (d.file k).seen.length) b f d.names h.sn
    have h2 := SW_del (fun k => (d.file k).seen.length) a (aput d.names b f)
    rw [aget_put, if_neg (fun e => hab e.symm), hg] at h2
    simp at h2
    omega
  | removes a =>
    have h2 := SW_del (fun k => (d.file k).seen.length) a d.names
    show SW _ (adel d.names a) ≤ _
    omega
theorem change_inv {d : Dk} (h : d.Inv) (c : Ch) (hok : c.ok d.names) (hf : c.fit d.names d.files.length) (hz : ∀ n f, c = .makes n f → (d.file f).seen.length = 0) : (d.change c).Inv := by
  have hn := h.nok.change c hok hf
  have hpl : c.play (chplay d.sure d.changes) = c.play d.names := by rw [← h.ok.play]
  refine ⟨⟨hn.srt, h.ok.ss, ?_, ?_, hn.lt, h.ok.lts, fun n k hx => ?_, hn.nd, h.ok.fl, hn.few, ?_⟩, fun n => ?_, h.big⟩
  · show c.play d.names = chplay d.sure (d.changes ++ [c])
    rw [chplay_snoc, hpl]
  · show ChOk d.sure (d.changes ++ [c])
    rw [chok_snoc, ← h.ok.play]; exact ⟨h.ok.chs, hok⟩
  · rcases List.mem_append.1 hx with hx | hx
    · exact h.ok.ltc n k hx
    · have e := List.mem_singleton.1 hx
      subst e
      exact hf.1
  · exact Nat.le_trans (used_change h.ok c hok hz) h.ok.room
  · show NOk (chplay d.sure ((d.changes ++ [c]).take n)) d.files.length
    rcases chplay_all d.sure d.changes c n with e | e
    · rw [e]; exact h.pre n
    · rw [e, hpl]; exact hn
theorem syncNames_inv {d : Dk} (h : d.Inv) : ({ d with sure := chplay d.sure d.changes, changes := [] } : Dk).Inv := by
  have e : chplay d.sure d.changes = d.names := h.ok.play.symm
  refine ⟨⟨h.ok.sn, ?_, ?_, trivial, h.ok.lt, ?_, fun n k hx => ?_, h.ok.nd, h.ok.fl, h.ok.few, h.ok.room⟩, fun n => ?_, h.big⟩
  · rw [e]; exact h.ok.sn
  · exact h.ok.play
  · intro x hx
    have hx' : x ∈ chplay d.sure d.changes := hx
    rw [e] at hx'
    exact h.ok.lt x hx'
  · have hx' : Ch.makes n k ∈ ([] : List Ch) := hx
    cases hx'
  · show NOk (chplay (chplay d.sure d.changes) (([] : List Ch).take n)) d.files.length
    rw [e, List.take_nil]; exact h.nok
end Go.Proofs.Ytonecajkfbdnmaa.Dk

namespace Go.Proofs.Ytonecajkfbdnmaa.Dk
set_option linter.unusedVariables false
set_option linter.unusedSimpArgs false

theorem fresh_file {d : Dk} : d.fresh.file d.files.length = ⟨[], [], []⟩ := by simp [Dk.fresh, Dk.file]
theorem change_file (d : Dk) (c : Ch) (f : Nat) : (d.change c).file f = d.file f := rfl
/-- The disk behind a new file's making. -/
def Dk.mk1 (d : Dk) (n : ByteArray) : Dk := d.tick.fresh.change (.makes n d.files.length)
theorem mk1_inv {d : Dk} (h : d.Inv) {n : ByteArray} (hn : aget d.names n = none) (hf : fair n = true) (hl : d.names.length < 64) : (d.mk1 n).Inv := by
  refine change_inv (fresh_inv (tick_inv h)) (.makes n d.files.length) hn ⟨by simp [Dk.fresh, Dk.tick], fun x hx => ?_, hl, hf⟩ (fun m f e => ?_)
  · have := h.ok.lt x hx; omega
  · injection e with _ e
    subst e
    show (d.tick.fresh.file d.tick.files.length).seen.length = 0
    rw [fresh_file]; rfl
theorem mk1_used {d : Dk} (h : d.Inv) {n : ByteArray} (hn : aget d.names n = none) : (d.mk1 n).used = d.used := by
  have h1 := SW_put (fun k => ((d.mk1 n).file k).seen.length) n d.files.length d.names h.ok.sn
  rw [hn] at h1
  have h2 : ((d.mk1 n).file d.files.length).seen.length = 0 := by
    show (d.tick.fresh.file d.tick.files.length).seen.length = 0
    rw [fresh_file]; rfl
  have h3 : SW (fun k => ((d.mk1 n).file k).seen.length) d.names = d.used := fresh_used (tick_inv h).ok
  simp [h2] at h1
  rw [h3] at h1
  exact h1
theorem give_len (b : By) (x : Fl) : (Dk.give b x).seen.length = x.seen.length + b.length := by simp [Dk.give]
/-- The ways of an append. -/
theorem append_cases (d : Dk) (n : ByteArray) (b : By) :
    ((d.append n b).1 = d ∧ ((d.append n b).2 = 111 ∨ (d.append n b).2 = 115)) ∨
    (d.off = false ∧ fair n = true ∧ (aget d.names n = none → d.names.length < 64) ∧ d.tick.tight b.length = true ∧ d.append n b = (d.tick, if d.tick.off then 115 else 114)) ∨
    (d.off = false ∧ d.tick.tight b.length = false ∧ ∃ f, aget d.names n = some f ∧ d.append n b = (d.tick.setFile f (Dk.give b), d.tick.told)) ∨
    (d.off = false ∧ fair n = true ∧ d.tick.tight b.length = false ∧ aget d.names n = none ∧ d.names.length < 64 ∧ d.append n b = ((d.mk1 n).setFile d.files.length (Dk.give b), d.tick.told)) := by
  have ht : ∀ q : Prop, [Decidable q] → (d.tick.planFull = true ∨ d.room - d.used < b.length) = (d.tick.tight b.length = true) := fun _ => by
    unfold Dk.tight
    simp [Dk.tick, Dk.used, Dk.file]
  rcases find_cases d n with ⟨f, hf, hg, ho, hfa⟩ | ⟨hf, hg, ho, hfa⟩ | ⟨hf, ho, _⟩ | ⟨hf, ho⟩
  · right
    cases hX : d.tick.tight b.length
    · right; left
      refine ⟨ho, rfl, f, hg, ?_⟩
      unfold Dk.append; rw [hf]
      simp only [ht True, hX]
      simp
    · left
      refine ⟨ho, hfa, fun e => (by rw [hg] at e; cases e), rfl, ?_⟩
      unfold Dk.append; rw [hf]
      simp only [ht True, hX]
      simp
  · by_cases hl : d.names.length < 64
    · right
      have hl2 : ¬ 64 ≤ d.names.length := by omega
      cases hX : d.tick.tight b.length
      · right; right
        refine ⟨ho, hfa, rfl, hg, hl, ?_⟩
        unfold Dk.append; rw [hf]
        simp only [ht True, hX]
        simp [hl2, Dk.mk1]
      · left
        refine ⟨ho, hfa, fun _ => hl, rfl, ?_⟩
        unfold Dk.append; rw [hf]
        simp only [ht True, hX]
        simp [hl2]
    · left
      have hl2 : 64 ≤ d.names.length := by omega
      have e : d.append n b = (d, 111) := by unfold Dk.append; rw [hf]; simp [hl2]
      rw [e]; exact ⟨rfl, .inl rfl⟩
  · left
    have e : d.append n b = (d, 111) := by unfold Dk.append; rw [hf]; simp
    rw [e]; exact ⟨rfl, .inl rfl⟩
  · left
    have e : d.append n b = (d, 115) := by unfold Dk.append; rw [hf]; simp
    rw [e]; exact ⟨rfl, .inr rfl⟩
theorem tight_room {d : Dk} {n : Nat} (h : d.tick.tight n = false) (hu : d.used ≤ d.room) : d.used + n ≤ d.room := by
  unfold Dk.tight at h
  simp at h
  have h1 : ¬ d.room - d.used < n := by
    have := h.2
    simpa [Dk.tick, Dk.used, Dk.file] using this
  omega
theorem append_inv {d : Dk} (h : d.Inv) (n : ByteArray) (b : By) : (d.append n b).1.Inv := by
  rcases append_cases d n b with ⟨e, _⟩ | ⟨_, _, _, _, e⟩ | ⟨_, ht, f, hg, e⟩ | ⟨_, hfa, ht, hg, hl, e⟩
  · rw [e]; exact h
  · rw [e]; exact tick_inv h
  · rw [e]
    have hi := tick_inv h
    have hf : f < d.tick.files.length := h.ok.lt (n, f) ((mem_aget h.ok.sn n f).2 hg)
    refine setFile_inv hi f hf _ (fun hx => give_ok hx b) ?_
    have hr := tight_room ht h.ok.room
    have h1 : d.tick.used = d.used := rfl
    rcases used_setFile hi.ok f hf (Dk.give b) with ⟨_, e2⟩ | e2
    · rw [e2]; exact hi.ok.room
    · rw [give_len] at e2
      show _ ≤ d.room
      omega
  · rw [e]
    have hi := mk1_inv h hg hfa hl
    have hf : d.files.length < (d.mk1 n).files.length := by simp [Dk.mk1, Dk.change, Dk.fresh, Dk.tick]
    refine setFile_inv hi d.files.length hf _ (fun hx => give_ok hx b) ?_
    have hr := tight_room ht h.ok.room
    have h1 := mk1_used h hg
    rcases used_setFile hi.ok d.files.length hf (Dk.give b) with ⟨_, e2⟩ | e2
    · rw [e2]; exact hi.ok.room
    · rw [give_len] at e2
      show _ ≤ d.room
      omega
theorem cut_inv {d : Dk} (h : d.Inv) (n : ByteArray) (k : Int) : (d.cut n k).1.Inv := by
  unfold Dk.cut
  rcases find_cases d n with ⟨f, hf, hg, ho, hfa⟩ | ⟨hf, hg, ho, hfa⟩ | ⟨hf, ho, _⟩ | ⟨hf, ho⟩
  · rw [hf]
    show (if 0 ≤ k ∧ k ≤ (d.file f).seen.length then (d.tick.setFile f (Dk.cutF k.toNat), d.tick.told) else (d, 113)).1.Inv
    split
    · have hi := tick_inv h
      have hf' : f < d.tick.files.length := h.ok.lt (n, f) ((mem_aget h.ok.sn n f).2 hg)
      refine setFile_inv hi f hf' _ (fun hx => cut_ok hx _) ?_
      have h3 : (Dk.cutF k.toNat (d.tick.file f)).seen.length ≤ (d.tick.file f).seen.length := by
        unfold Dk.cutF; split
        · exact List.length_take_le' _ _
        · exact Nat.le_refl _
      have hr := hi.ok.room
      rcases used_setFile hi.ok f hf' (Dk.cutF k.toNat) with ⟨_, e2⟩ | e2
      · rw [e2]; exact hr
      · omega
    · exact h
  all_goals rw [hf]; exact h
theorem sync_inv {d : Dk} (h : d.Inv) (n : ByteArray) : (d.sync n).1.Inv := by
  unfold Dk.sync
  rcases find_cases d n with ⟨f, hf, hg, ho, hfa⟩ | ⟨hf, hg, ho, hfa⟩ | ⟨hf, ho, _⟩ | ⟨hf, ho⟩
  · rw [hf]
    show (if d.tick.off then d.tick else d.tick.setFile f Dk.syncF).Inv
    have hi := tick_inv h
    split
    · exact hi
    · have hf' : f < d.tick.files.length := h.ok.lt (n, f) ((mem_aget h.ok.sn n f).2 hg)
      refine setFile_inv hi f hf' _ (fun hx => sync_ok _) ?_
      have hr := hi.ok.room
      rcases used_setFile hi.ok f hf' Dk.syncF with ⟨_, e2⟩ | e2
      · rw [e2]; exact hr
      · have : (Dk.syncF (d.tick.file f)).seen.length = (d.tick.file f).seen.length := rfl
        omega
  all_goals rw [hf]; exact h
theorem syncNames_inv' {d : Dk} (h : d.Inv) : d.syncNames.1.Inv := by
  unfold Dk.syncNames
  split
  · exact h
  · show (if d.tick.off then d.tick else { d.tick with sure := chplay d.sure d.changes, changes := [] }).Inv
    split
    · exact tick_inv h
    · exact syncNames_inv (tick_inv h)
theorem rename_inv {d : Dk} (h : d.Inv) (a b : ByteArray) : (d.rename a b).1.Inv := by
  unfold Dk.rename
  rcases find_cases d a with ⟨f, hf, hg, ho, hfa⟩ | ⟨hf, hg, ho, hfa⟩ | ⟨hf, ho, _⟩ | ⟨hf, ho⟩
  · rw [hf]
    cases hfb : fair b
    · simp [hfb]; exact h
    · by_cases e : a = b
      · simp [hfb, e]; exact tick_inv h
      · simp [hfb, e]
        exact change_inv (tick_inv h) _ ⟨e, f, hg⟩ hfb (fun m k q => by cases q)
  · rw [hf]
    cases hfb : fair b <;> simp [hfb] <;> exact h
  all_goals rw [hf]; simp; exact h
theorem remove_inv {d : Dk} (h : d.Inv) (n : ByteArray) : (d.remove n).1.Inv := by
  unfold Dk.remove
  rcases find_cases d n with ⟨f, hf, hg, ho, hfa⟩ | ⟨hf, hg, ho, hfa⟩ | ⟨hf, ho, _⟩ | ⟨hf, ho⟩
  · rw [hf]; exact change_inv (tick_inv h) _ ⟨f, hg⟩ trivial (fun m k q => by cases q)
  all_goals rw [hf]; exact h
theorem play_inv {d : Dk} (h : d.Inv) (o : POp) : (d.play o).1.Inv := by
  unfold Dk.play
  split
  · exact h
  · unfold Dk.playN
    split
    · exact append_inv h _ _
    · exact cut_inv h _ _
    · exact sync_inv h _
    · exact syncNames_inv' h
    · exact rename_inv h _ _
    · exact remove_inv h _
    · exact h
theorem new_inv (room : Nat) (hr : room ≤ 67108864) : (Dk.new room).Inv := by
  refine ⟨⟨List.Pairwise.nil, List.Pairwise.nil, rfl, trivial, by simp [Dk.new], by simp [Dk.new], by simp [Dk.new], by simp [Dk.new], by simp [Dk.new], by simp [Dk.new], by simp [Dk.new, Dk.used]⟩, fun n => ?_, hr⟩
  show NOk (chplay [] (([] : List Ch).take n)) 0
  rw [List.take_nil]; exact NOk.nil 0
end Go.Proofs.Ytonecajkfbdnmaa.Dk

namespace Go.Proofs.Ytonecajkfbdnmaa.Dk
open Go.Lib Go.RowKit Go.ChangeMaps Go.Proofs.Ytonecajkfbdnmaa.Mp Go.Proofs.YtonecajkfbdnmaaW.PrintWords Go.Proofs.YtonecajkfbdnmaaW.PrintLast Go.Proofs.YtonecajkfbdnmaaW.PrintMore Go.Proofs.Ytonecajkfbdnmaa.PDiskRoom
set_option linter.unusedVariables false
set_option linter.unusedSimpArgs false

theorem w64 {i : Nat} (h : i ≤ 1000000000000) : wrap64 ((i : Int) + 1) = ((i + 1 : Nat) : Int) := by unfold wrap64; omega
theorem rd_eq (l : List Int) (i : Nat) (hi : i < l.length) : YtonecajkfbdnmaaW.PrintWords.rd l (i : Int) = l[i] := by
  unfold YtonecajkfbdnmaaW.PrintWords.rd
  rw [Int.toNat_natCast, List.getD_eq_getElem?_getD, List.getElem?_eq_getElem hi]; rfl
theorem take_eq {α : Type} {l m : List α} {i : Nat} (hl : i < l.length) (hm : i < m.length) (h : l.take i = m.take i) (he : l[i] = m[i]) : l.take (i + 1) = m.take (i + 1) := by
  rw [List.take_succ_eq_append_getElem hl, List.take_succ_eq_append_getElem hm, h, he]
theorem take_ne {α : Type} {l m : List α} {i : Nat} (hl : i < l.length) (hm : i < m.length) (he : l[i] ≠ m[i]) : l ≠ m := fun e => by subst e; exact he rfl
theorem cmp_from (l m : List Int) (hl : l.length ≤ 1000000000000) : ∀ (d i k : Nat), l.length - i ≤ d → i ≤ l.length → i ≤ m.length → l.take i = m.take i → 2 * d + 2 ≤ k → ∃ r, satchelref0_Cmp.l0 k l m (i : Int) = some r ∧ (r = 0 ↔ l = m) := by
  intro d
  induction d with
  | zero =>
    intro i k hd hi hm ht hk
    obtain ⟨k, rfl⟩ : ∃ q, k = q + 2 := ⟨k - 2, by omega⟩
    have hil : i = l.length := by omega
    simp only [satchelref0_Cmp.l0, satchelref0_Cmp.j1]
    rw [if_neg (by omega)]
    simp only [Bool.false_eq_true, if_false]
    by_cases h1 : (l.length : Int) < (m.length : Int)
    · rw [if_pos h1]; exact ⟨-1, rfl, by simp; intro e; rw [e] at h1; omega⟩
    · rw [if_neg h1]
      by_cases h2 : (l.length : Int) > (m.length : Int)
      · omega
      · rw [if_neg h2]
        refine ⟨0, rfl, by simp; rw [hil, List.take_length, List.take_of_length_le (by omega)] at ht; exact ht⟩
  | succ d ih =>
    intro i k hd hi hm ht hk
    obtain ⟨k, rfl⟩ : ∃ q, k = q + 2 := ⟨k - 2, by omega⟩
    simp only [satchelref0_Cmp.l0, satchelref0_Cmp.j1]
    by_cases hlt : i < l.length
    · rw [if_pos (by omega)]
      by_cases hmt : i < m.length
      · have e : decide ((i : Int) < (m.length : Int)) = true := by simp; omega
        rw [e, if_pos rfl, if_pos (by omega), if_pos (by omega), if_pos (by omega), rd_eq l i hlt, rd_eq m i hmt]
        by_cases h1 : l[i] < m[i]
        · rw [if_pos h1]; exact ⟨-1, rfl, by simp; exact take_ne hlt hmt (by omega)⟩
        · rw [if_neg h1]
          by_cases h2 : l[i] > m[i]
          · rw [if_pos h2]; exact ⟨1, rfl, by simp; exact take_ne hlt hmt (by omega)⟩
          · rw [if_neg h2, w64 (by omega)]
            exact ih (i + 1) k (by omega) (by omega) (by omega) (take_eq hlt hmt ht (by omega)) (by omega)
      · have e : decide ((i : Int) < (m.length : Int)) = false := by simp; omega
        rw [e]
        simp only [Bool.false_eq_true, if_false]
        rw [if_neg (by omega), if_pos (by omega)]
        exact ⟨1, rfl, by simp; intro q; rw [q] at hlt; omega⟩
    · rw [if_neg (by omega)]
      simp only [Bool.false_eq_true, if_false]
      have hil : i = l.length := by omega
      by_cases h1 : (l.length : Int) < (m.length : Int)
      · rw [if_pos h1]; exact ⟨-1, rfl, by simp; intro e; rw [e] at h1; omega⟩
      · rw [if_neg h1, if_neg (by omega)]
        refine ⟨0, rfl, by simp; rw [hil, List.take_length, List.take_of_length_le (by omega)] at ht; exact ht⟩
theorem cmp_law (l m : List Int) (hl : l.length ≤ 1000000000000) (k : Nat) (hk : 2 * l.length + 2 ≤ k) : ∃ r, satchelref0_Cmp.f k l m = some r ∧ (r = 0 ↔ l = m) :=
  cmp_from l m hl l.length 0 k (by omega) (by omega) (by omega) (by simp) hk
theorem eq_law (l m : List Int) (hl : l.length ≤ 1000000000000) : satchelref0_Eq.f (2 * l.length + 2) l m = some (decide (l = m)) := by
  obtain ⟨r, h1, h2⟩ := cmp_law l m hl _ (Nat.le_refl _)
  unfold satchelref0_Eq.f
  rw [h1]
  simp only [Option.bind_some, Option.some.injEq]
  rw [Bool.eq_iff_iff]; simp [h2]
theorem rd_T28_eq (l : List S28) (i : Nat) (hi : i < l.length) : rd_T28 l (i : Int) = l[i] := by
  unfold rd_T28
  rw [Int.toNat_natCast, List.getD_eq_getElem?_getD, List.getElem?_eq_getElem hi]; rfl
theorem toList_iff (a b : ByteArray) : a.toList = b.toList ↔ a = b := by
  constructor
  · intro h
    rw [Go.ByteArray.toList_eq, Go.ByteArray.toList_eq] at h
    exact bl_inj h
  · intro h; rw [h]
theorem S28_ext {x y : S28} (h1 : x.f0 = y.f0) (h2 : x.f1 = y.f1) : x = y := by cases x; cases y; simp_all
instance decS28 : DecidableEq S28 := fun x y => decidable_of_iff (x.f0 = y.f0 ∧ x.f1 = y.f1) ⟨fun h => S28_ext h.1 h.2, fun h => by subst h; exact ⟨rfl, rfl⟩⟩
theorem img_from (l m : List S28) (hlm : l.length = m.length) (hl : l.length ≤ 1000000000) (M : Nat) (hM : ∀ x ∈ l, x.f1.length ≤ M) (hM2 : M ≤ 1000000000000) : ∀ (d i k : Nat), l.length - i ≤ d → i ≤ l.length → l.take i = m.take i → d + 2 * M + 3 ≤ k →
    satchelref0_EqImage.l0 k l m (i : Int) = some (decide (l = m)) := by
  intro d
  induction d with
  | zero =>
    intro i k hd hi ht hk
    obtain ⟨k, rfl⟩ : ∃ q, k = q + 1 := ⟨k - 1, by omega⟩
    simp only [satchelref0_EqImage.l0]
    have hil : i = l.length := by omega
    rw [if_neg (by omega)]
    rw [hil, List.take_length, List.take_of_length_le (by omega)] at ht
    rw [ht]; simp
  | succ d ih =>
    intro i k hd hi ht hk
    obtain ⟨k, rfl⟩ : ∃ q, k = q + 1 := ⟨k - 1, by omega⟩
    simp only [satchelref0_EqImage.l0]
    by_cases hlt : i < l.length
    · have hmt : i < m.length := by omega
      rw [if_pos (by omega), if_pos (by omega), if_pos (by omega), rd_T28_eq l i hlt, rd_T28_eq m i hmt]
      by_cases h1 : l[i].f0 = m[i].f0
      · rw [if_pos ((toList_iff _ _).2 h1)]
        obtain ⟨r, h2, h3⟩ := cmp_law l[i].f1 m[i].f1 (Nat.le_trans (hM _ (List.getElem_mem hlt)) hM2) k (by have := hM _ (List.getElem_mem hlt); omega)
        rw [h2]
        simp only [Option.bind_some]
        by_cases h4 : r = 0
        · rw [if_pos h4, w64 (by omega)]
          exact ih (i + 1) k (by omega) (by omega) (take_eq hlt hmt ht (S28_ext h1 (h3.1 h4))) (by omega)
        · rw [if_neg h4]
          have : l ≠ m := take_ne hlt hmt (fun e => h4 (h3.2 (by rw [e])))
          simp [this]
      · rw [if_neg (fun e => h1 ((toList_iff _ _).1 e))]
        have : l ≠ m := take_ne hlt hmt (fun e => h1 (by rw [e]))
        simp [this]
    · have hil : i = l.length := by omega
      rw [if_neg (by omega)]
      rw [hil, List.take_length, List.take_of_length_le (by omega)] at ht
      rw [ht]; simp
theorem image_law (l m : List S28) (hl : l.length ≤ 1000000000) (M : Nat) (hM : ∀ x ∈ l, x.f1.length ≤ M) (hM2 : M ≤ 1000000000000) : satchellaw11_image.f (l.length + 2 * M + 3) l m = some (decide (l = m)) := by
  unfold satchellaw11_image.f satchelref0_EqImage.f
  by_cases h : l.length = m.length
  · rw [if_pos (by omega)]
    have := img_from l m h hl M hM hM2 l.length 0 (l.length + 2 * M + 3) (by omega) (by omega) (by simp) (by omega)
    rw [show (((0 : Nat) : Int)) = 0 from rfl] at this
    rw [this]; rfl
  · rw [if_neg (by omega)]
    have : l ≠ m := fun e => h (by rw [e])
    simp [this]
theorem ints_inj {a b : By} (h : ints a = ints b) : a = b := by
  unfold ints at h
  refine List.map_inj_right (fun x y e => ?_) |>.1 h
  have : x.toNat = y.toNat := by omega
  exact UInt8.toNat_inj.1 this
abbrev Img := List (ByteArray × By)
theorem encF_inj {a b : Img} (h : a.map encF = b.map encF) : a = b := by
  refine List.map_inj_right (fun x y e => ?_) |>.1 h
  unfold encF at e
  injection e with e1 e2
  exact Prod.ext e1 (ints_inj e2)
/-- What the law's image says of two images. -/
theorem image_walk (a b : Img) (A B : Option Addr) (ca cb : Nat) (w : World) (hA : Kd.C k28 w A a.length (a.map encF)) (hca : a.length ≤ ca) (hB : Kd.C k28 w B b.length (b.map encF)) (hcb : b.length ≤ cb) (hl : a.length ≤ 1000000000) (hM : ∀ x ∈ a, x.2.length ≤ 1000000000) :
    Calls Try.prog 20 #[.slice A a.length ca, .slice B b.length cb] w fun e w' => e = .returned (.bool (decide (a = b))) ∧ ∃ m, w' = w.drewN m := by
  have h1 : (a.map encF).length = a.length := List.length_map ..
  have h2 : (b.map encF).length = b.length := List.length_map ..
  have hlaw := image_law (a.map encF) (b.map encF) (by rw [h1]; exact hl) 1000000000 (fun x hx => by
    obtain ⟨y, hy, rfl⟩ := List.mem_map.1 hx
    show (ints y.2).length ≤ _
    rw [ints_length]; exact hM y hy) (by omega)
  have := satchellaw11_image.calls _ A ca (a.map encF) B cb (b.map encF) _ w (by rw [h1]; exact hA) (by rw [h1]; exact hca) (by rw [h2]; exact hB) (by rw [h2]; exact hcb) hlaw
  rw [h1, h2] at this
  refine this.mono ?_
  rintro e w' ⟨rfl, m, hm⟩
  refine ⟨?_, m, hm⟩
  congr 2
  rw [decide_eq_decide]
  exact ⟨encF_inj, fun e => by rw [e]⟩
theorem eq_walk (a b : By) (A B : Option Addr) (ca cb : Nat) (w : World) (hA : Kd.C kB w A a.length (ints a)) (hca : a.length ≤ ca) (hB : Kd.C kB w B b.length (ints b)) (hcb : b.length ≤ cb) (hl : a.length ≤ 1000000000000) :
    Calls Try.prog 19 #[.slice A a.length ca, .slice B b.length cb] w fun e w' => e = .returned (.bool (decide (a = b))) ∧ ∃ m, w' = w.drewN m := by
  have h1 := ints_length a
  have h2 := ints_length b
  have hlaw := eq_law (ints a) (ints b) (by rw [h1]; exact hl)
  have := satchelref0_Eq.calls _ A ca (ints a) B cb (ints b) _ w (by rw [h1]; exact hA) (by rw [h1]; exact hca) (by rw [h2]; exact hB) (by rw [h2]; exact hcb) hlaw
  rw [h1, h2] at this
  refine this.mono ?_
  rintro e w' ⟨rfl, m, hm⟩
  refine ⟨?_, m, hm⟩
  congr 2
  rw [decide_eq_decide]
  exact ⟨ints_inj, fun e => by rw [e]⟩

/-! ### find -/
def imgFind : Img → ByteArray → Option By
  | [], _ => none
  | x :: l, n => if x.1 = n then some x.2 else imgFind l n
theorem imgFind_cons (x : ByteArray × By) (l : Img) (n : ByteArray) : imgFind (x :: l) n = if x.1 = n then some x.2 else imgFind l n := rfl
theorem img_at {w : World} {A : Option Addr} {l : Img} (h : Kd.C k28 w A l.length (l.map encF)) (i : Nat) (hi : i < l.length) :
    ∃ ad A1 c1, A = some ad ∧ w.cell? (ad.add (i * 2)) = some (.string l[i].1) ∧ w.cell? ⟨(ad.add (i * 2)).block, (ad.add (i * 2)).off + 1, none⟩ = some (.slice A1 l[i].2.length c1) ∧ l[i].2.length ≤ c1 ∧ Kd.C kB w A1 (ints l[i].2).length (ints l[i].2) := by
  have h1 : (l.map encF).length = l.length := List.length_map ..
  obtain ⟨ad, A1, c1, e, g0, g1, g2, g3⟩ := at_T28 (by rw [← h1] at h; exact h) (i : Int) (by omega) (by rw [h1]; omega)
  rw [rd_T28_eq _ i (by rw [h1]; exact hi), List.getElem_map] at g0 g1 g2 g3
  rw [Int.toNat_natCast] at g0 g1
  have e2 : (encF l[i]).f1.length = l[i].2.length := ints_length _
  rw [e2] at g1 g2
  exact ⟨ad, A1, c1, e, g0, g1, g2, g3⟩
set_option maxRecDepth 100000 in
set_option maxHeartbeats 2000000 in
theorem imgfind_walk (l : Img) (n : ByteArray) (A : Option Addr) (c : Nat) (w : World) (hC : Kd.C k28 w A l.length (l.map encF)) (hl : l.length ≤ 1000000000) :
    Calls Try.prog 27 #[.slice A l.length c, .string n] w fun e w' => ∃ A1 c1, e = .returned (.tuple #[.slice A1 ((imgFind l n).getD []).length c1, .bool (imgFind l n).isSome]) ∧ ((imgFind l n).getD []).length ≤ c1 ∧ Kd.C kB w A1 (ints ((imgFind l n).getD [])).length (ints ((imgFind l n).getD [])) ∧ w' = w := by
  have HC := Lib.hid hC
  clear hC
  obtain ⟨R, hR⟩ : ∃ R, imgFind l n = R := ⟨_, rfl⟩
  rw [hR]
  have HR := Lib.hid hR
  clear hR
  go_enter Try.func27, Try.ntmps27
  go_wp2_with fail
  go_loop [6] (fun v6 => ∃ i : Nat, i ≤ l.length ∧ v6 = .int .i64 i ∧ imgFind (l.drop i) n = R) (fun v6 => l.length - (RowKit.intOf v6).toNat)
  case atStart => exact ⟨0, Nat.zero_le _, rfl, HR.out⟩
  case round =>
    obtain ⟨i, hi, rfl, hf⟩ := hrel
    by_cases hlt : i < l.length
    · obtain ⟨ad, A1, c1, hA, g0, g1, g2, g3⟩ := img_at HC.out i hlt
      subst hA
      rw [List.drop_eq_getElem_cons hlt, imgFind_cons] at hf
      obtain ⟨x, hx⟩ : ∃ x, l[i] = x := ⟨_, rfl⟩
      rw [hx] at g0 g1 g2 g3 hf
      obtain ⟨xn, xb⟩ := x
      simp only at g0 g1 g2 g3 hf
      have qi0 : (0 : Int) ≤ (i : Int) := by omega
      have qi1 : (i : Int) < (l.length : Int) := by omega
      have HG2 := Lib.hid g2
      have HG3 := Lib.hid g3
      clear hx g2 g3
      by_cases e : xn = n
      · subst e
        rw [if_pos rfl] at hf
        have HF := Lib.hid hf
        have e2 : (xn.toList == xn.toList) = true := by simp
        clear hf
        go_wp2_with fail
        go_ret2
        rw [← HF.out]
        exact ⟨A1, c1, rfl, HG2.out, HG3.out, rfl⟩
      · rw [if_neg e] at hf
        have HF := Lib.hid hf
        have e2 : (xn.toList == n.toList) = false := toList_ne e
        clear hf e
        go_wp2_with fail
        go_round
        case rel => exact ⟨i + 1, by omega, by go_num, HF.out⟩
        case measure => simp [RowKit.intOf]; omega
    · have hil : i = l.length := by omega
      rw [List.drop_eq_nil_of_le (by omega)] at hf
      have HF := Lib.hid hf
      clear hf
      go_wp2_with fail
      go_ret2
      rw [← HF.out]
      exact ⟨none, 0, rfl, Nat.le_refl _, Kd.C_nil _ _, rfl⟩
/-! ### Copy -/
set_option maxRecDepth 100000 in
set_option maxHeartbeats 2000000 in
theorem copy_walk (s : By) (A : Option Addr) (c : Nat) (w : World) (hC : Kd.C kB w A (ints s).length (ints s)) (hl : s.length ≤ 1000000000) :
    Calls Try.prog 28 #[.slice A s.length c] w fun e w' => ∃ v, e = .returned v ∧ Kd.R kB 5 w' w.heap.size (fun k => w.heap.size ≤ k) v (ints s) ∧ Below w.heap.size w w' := by
  have HC := Lib.hid hC
  have HIL := Lib.hid (ints_length s)
  clear hC
  go_enter Try.func28, Try.ntmps28
  go_wp2_with (first | (at_make; refine Kd.R_make kB (w0 := w) w.heap.size 5 rfl rfl 26 (.tmp 5) (.tmp 5) rfl (s.length : Int) rfl rfl Try.underlying26 (.int .u8 0) 1 info5 rfl (by decide) (by decide) (0 : Int) (okp := fun _ => False) (ok := fun k => w.heap.size ≤ k) rfl (fun _ hk => hk.elim) (Nat.le_refl _) (by omega) (by omega) (Below.refl _ _) (Nat.le_refl _) ?_; intro v1 w2 hr2 hb2 hg2 hv2; have HR2 := Lib.hid hr2; have HB2 := Lib.hid hb2; have HV2 := Lib.hid hv2; have HC2 := Lib.hid (Kd.C_below HC.out hb2); clear hr2 hb2 hv2 hg2) | ((with_reducible refine gate_dst (N := 9) rfl ?_); refine R_copy (w0 := w) (base := w.heap.size) (ok := fun k => w.heap.size ≤ k) rfl (.tmp 7) (.tmp 8) rfl v1 (List.replicate s.length 0) (ints s) A c rfl (by rw [HIL.out]; rfl) HR2.out (by rw [HIL.out]; simp) (HV2.out.elim fun b hb => ⟨b, hb.1⟩) HC2.out HB2.out ?_; intro w3 hr3 hb3))
  go_ret
  exact ⟨_, rfl, hr3, hb3⟩
end Go.Proofs.Ytonecajkfbdnmaa.Dk

namespace Go.Proofs.Ytonecajkfbdnmaa.Dk
set_option linter.unusedVariables false
set_option linter.unusedSimpArgs false

theorem Bd.mono {d : Dk} {B C : Nat} (h : Bd d B) (hc : B ≤ C) : Bd d C :=
  ⟨Nat.le_trans h.strokes hc, Nat.le_trans h.count hc, Nat.le_trans h.changes hc, fun f hf => Nat.le_trans (h.units f hf) hc, fun f hf => Nat.le_trans (h.seen f hf) hc, fun f hf => Nat.le_trans (h.kept f hf) hc, h.room⟩
theorem Bd.tick {d : Dk} {B : Nat} (h : Bd d B) : Bd d.tick (B + 1) :=
  ⟨by show d.strokes + 1 ≤ _; have := h.strokes; omega, by show d.count + 1 ≤ _; have := h.count; omega, Nat.le_succ_of_le h.changes, fun f hf => Nat.le_succ_of_le (h.units f hf), fun f hf => Nat.le_succ_of_le (h.seen f hf), fun f hf => Nat.le_succ_of_le (h.kept f hf), h.room⟩
theorem Bd.setFile {d : Dk} {B : Nat} (h : Bd d B) (f : Nat) (hf : f < d.files.length) (g : Fl → Fl) {C : Nat} (hc : B ≤ C) (h1 : (g (d.file f)).units.length ≤ C) (h2 : (g (d.file f)).seen.length ≤ C) (h3 : (g (d.file f)).kept.length ≤ C) : Bd (d.setFile f g) C := by
  have key : ∀ k, k < (d.setFile f g).files.length → k < d.files.length := fun k hk => by rw [setFile_len] at hk; exact hk
  refine ⟨Nat.le_trans h.strokes hc, Nat.le_trans h.count hc, Nat.le_trans h.changes hc, fun k hk => ?_, fun k hk => ?_, fun k hk => ?_, h.room⟩
  all_goals
    by_cases e : k = f
    · subst e; rw [setFile_self d k g hf]; assumption
    · rw [setFile_other d f k g e]
      first
        | exact Nat.le_trans (h.units k (key k hk)) hc
        | exact Nat.le_trans (h.seen k (key k hk)) hc
        | exact Nat.le_trans (h.kept k (key k hk)) hc
theorem Bd.change {d : Dk} {B : Nat} (h : Bd d B) (c : Ch) : Bd (d.change c) (B + 1) :=
  ⟨Nat.le_succ_of_le h.strokes, Nat.le_succ_of_le h.count, by show (d.changes ++ [c]).length ≤ _; rw [List.length_append]; have := h.changes; simp; omega, fun f hf => Nat.le_succ_of_le (h.units f hf), fun f hf => Nat.le_succ_of_le (h.seen f hf), fun f hf => Nat.le_succ_of_le (h.kept f hf), h.room⟩
theorem fresh_file_old {d : Dk} {f : Nat} (hf : f < d.files.length) : d.fresh.file f = d.file f := by
  unfold Dk.file Dk.fresh
  simp [List.getD_eq_getElem?_getD, List.getElem?_append_left hf]
theorem Bd.fresh {d : Dk} {B : Nat} (h : Bd d B) : Bd d.fresh B := by
  have key : ∀ k, k < d.fresh.files.length → k < d.files.length ∨ k = d.files.length := fun k hk => by simp [Dk.fresh] at hk; omega
  refine ⟨h.strokes, h.count, h.changes, fun k hk => ?_, fun k hk => ?_, fun k hk => ?_, h.room⟩
  all_goals
    rcases key k hk with hk | rfl
    · rw [fresh_file_old hk]
      first
        | exact h.units k hk
        | exact h.seen k hk
        | exact h.kept k hk
    · rw [fresh_file]; exact Nat.zero_le _
theorem find_lt {d : Dk} (h : d.Inv) {n : ByteArray} {f : Nat} (hg : aget d.names n = some f) : f < d.files.length := h.ok.lt (n, f) ((mem_aget h.ok.sn n f).2 hg)
theorem append_bd {d : Dk} (h : d.Inv) {B : Nat} (hb : Bd d B) (n : ByteArray) (b : By) : Bd (d.append n b).1 (B + b.length + 2) := by
  rcases append_cases d n b with ⟨e, _⟩ | ⟨_, _, _, _, e⟩ | ⟨_, ht, f, hg, e⟩ | ⟨_, hfa, ht, hg, hl, e⟩
  · rw [e]; exact hb.mono (by omega)
  · rw [e]; exact hb.tick.mono (by omega)
  · rw [e]
    have hf := find_lt h hg
    have h1 := hb.units f hf
    have h2 := hb.seen f hf
    have h3 := hb.kept f hf
    refine hb.tick.setFile f hf (Dk.give b) (by omega) ?_ ?_ ?_
    · show ((d.file f).units ++ b.map Un.add).length ≤ _; rw [List.length_append, List.length_map]; omega
    · show ((d.file f).seen ++ b).length ≤ _; rw [List.length_append]; omega
    · show (d.file f).kept.length ≤ _; omega
  · rw [e]
    have hf : d.files.length < (d.mk1 n).files.length := by simp [Dk.mk1, Dk.change, Dk.fresh, Dk.tick]
    have hz : (d.mk1 n).file d.files.length = ⟨[], [], []⟩ := fresh_file (d := d.tick)
    refine (hb.tick.fresh.change (.makes n d.files.length)).setFile (d := d.mk1 n) d.files.length hf (Dk.give b) (by omega) ?_ ?_ ?_
    · rw [hz]; simp [Dk.give]; omega
    · rw [hz]; simp [Dk.give]; omega
    · rw [hz]; simp [Dk.give]
theorem cut_bd {d : Dk} (h : d.Inv) {B : Nat} (hb : Bd d B) (n : ByteArray) (k : Int) : Bd (d.cut n k).1 (B + 2) := by
  unfold Dk.cut
  rcases find_cases d n with ⟨f, hf, hg, ho, hfa⟩ | ⟨hf, hg, ho, hfa⟩ | ⟨hf, ho, _⟩ | ⟨hf, ho⟩
  · rw [hf]
    show Bd (if 0 ≤ k ∧ k ≤ (d.file f).seen.length then (d.tick.setFile f (Dk.cutF k.toNat), d.tick.told) else (d, 113)).1 _
    split
    · have hl := find_lt h hg
      have h1 := hb.units f hl
      have h2 := hb.seen f hl
      have h3 := hb.kept f hl
      refine hb.tick.setFile f hl (Dk.cutF k.toNat) (by omega) ?_ ?_ ?_
      · show (Dk.cutF k.toNat (d.file f)).units.length ≤ _
        unfold Dk.cutF; split
        · simp; omega
        · omega
      · show (Dk.cutF k.toNat (d.file f)).seen.length ≤ _
        unfold Dk.cutF; split
        · have := List.length_take_le' k.toNat (d.file f).seen; show (List.take k.toNat (d.file f).seen).length ≤ _; omega
        · omega
      · show (Dk.cutF k.toNat (d.file f)).kept.length ≤ _
        unfold Dk.cutF; split <;> (show (d.file f).kept.length ≤ _; omega)
    · exact hb.mono (by omega)
  all_goals rw [hf]; exact hb.mono (by omega)
theorem sync_bd {d : Dk} (h : d.Inv) {B : Nat} (hb : Bd d B) (n : ByteArray) : Bd (d.sync n).1 (B + 2) := by
  unfold Dk.sync
  rcases find_cases d n with ⟨f, hf, hg, ho, hfa⟩ | ⟨hf, hg, ho, hfa⟩ | ⟨hf, ho, _⟩ | ⟨hf, ho⟩
  · rw [hf]
    show Bd (if d.tick.off then d.tick else d.tick.setFile f Dk.syncF) _
    split
    · exact hb.tick.mono (by omega)
    · have hl := find_lt h hg
      have h2 := hb.seen f hl
      refine hb.tick.setFile f hl Dk.syncF (by omega) ?_ ?_ ?_
      · exact Nat.zero_le _
      · show (d.file f).seen.length ≤ _; omega
      · show (d.file f).seen.length ≤ _; omega
  all_goals rw [hf]; exact hb.mono (by omega)
theorem syncNames_bd {d : Dk} {B : Nat} (hb : Bd d B) : Bd d.syncNames.1 (B + 2) := by
  unfold Dk.syncNames
  split
  · exact hb.mono (by omega)
  · show Bd (if d.tick.off then d.tick else { d.tick with sure := chplay d.sure d.changes, changes := [] }) _
    split
    · exact hb.tick.mono (by omega)
    · have h := hb.tick
      exact ⟨Nat.le_succ_of_le h.strokes, Nat.le_succ_of_le h.count, Nat.zero_le _, fun f hf => Nat.le_succ_of_le (h.units f hf), fun f hf => Nat.le_succ_of_le (h.seen f hf), fun f hf => Nat.le_succ_of_le (h.kept f hf), h.room⟩
theorem rename_bd {d : Dk} {B : Nat} (hb : Bd d B) (a b : ByteArray) : Bd (d.rename a b).1 (B + 2) := by
  unfold Dk.rename
  rcases find_cases d a with ⟨f, hf, hg, ho, hfa⟩ | ⟨hf, hg, ho, hfa⟩ | ⟨hf, ho, _⟩ | ⟨hf, ho⟩
  · rw [hf]
    cases hfb : fair b
    · simp [hfb]; exact hb.mono (by omega)
    · by_cases e : a = b
      · simp [hfb, e]; exact hb.tick.mono (by omega)
      · simp [hfb, e]; exact hb.tick.change _
  · rw [hf]
    cases hfb : fair b <;> simp [hfb] <;> exact hb.mono (by omega)
  all_goals rw [hf]; simp; exact hb.mono (by omega)
theorem remove_bd {d : Dk} {B : Nat} (hb : Bd d B) (n : ByteArray) : Bd (d.remove n).1 (B + 2) := by
  unfold Dk.remove
  rcases find_cases d n with ⟨f, hf, hg, ho, hfa⟩ | ⟨hf, hg, ho, hfa⟩ | ⟨hf, ho, _⟩ | ⟨hf, ho⟩
  · rw [hf]; exact hb.tick.change _
  all_goals rw [hf]; exact hb.mono (by omega)
theorem play_bd {d : Dk} (h : d.Inv) {B : Nat} (hb : Bd d B) (o : POp) : Bd (d.play o).1 (B + o.b.length + 2) := by
  unfold Dk.play
  split
  · exact hb.mono (by omega)
  · unfold Dk.playN
    split
    · exact append_bd h hb _ _
    · exact (cut_bd h hb _ _).mono (by omega)
    · exact (sync_bd h hb _).mono (by omega)
    · exact (syncNames_bd hb).mono (by omega)
    · exact (rename_bd hb _ _).mono (by omega)
    · exact (remove_bd hb _).mono (by omega)
    · exact hb.mono (by omega)
theorem new_bd (room : Nat) (hr : room ≤ 67108864) : Bd (Dk.new room) 0 := ⟨Nat.le_refl _, Nat.le_refl _, Nat.le_refl _, fun f hf => by simp [Dk.new] at hf, fun f hf => by simp [Dk.new] at hf, fun f hf => by simp [Dk.new] at hf, hr⟩
/-! ### plans -/
/-- The same room and plan; off only if it was or the plan says so. -/
structure Calm (d d' : Dk) : Prop where
  room : d'.room = d.room
  plan : d'.plan = d.plan
  off : d.off = false → d.plan.off ≤ 0 → d'.off = false
theorem Calm.refl (d : Dk) : Calm d d := ⟨rfl, rfl, fun h _ => h⟩
theorem tick_off {d : Dk} (h : d.plan.off ≤ 0) : d.tick.off = false := by
  show decide ((d.count : Int) + 1 = d.plan.off) = false
  simp; omega
theorem Calm.tick (d : Dk) : Calm d d.tick := ⟨rfl, rfl, fun _ h => tick_off h⟩
theorem append_calm (d : Dk) (n : ByteArray) (b : By) : Calm d (d.append n b).1 := by
  rcases append_cases d n b with ⟨e, _⟩ | ⟨_, _, _, _, e⟩ | ⟨_, ht, f, hg, e⟩ | ⟨_, hfa, ht, hg, hl, e⟩
  · rw [e]; exact Calm.refl d
  · rw [e]; exact Calm.tick d
  · rw [e]; exact ⟨rfl, rfl, fun _ h => tick_off h⟩
  · rw [e]; exact ⟨rfl, rfl, fun _ h => tick_off h⟩
theorem play_calm (d : Dk) (o : POp) : Calm d (d.play o).1 := by
  unfold Dk.play
  split
  · exact Calm.refl d
  · unfold Dk.playN
    split
    · exact append_calm d _ _
    · unfold Dk.cut
      rcases find_cases d o.name with ⟨f, hf, hg, ho, hfa⟩ | ⟨hf, hg, ho, hfa⟩ | ⟨hf, ho, _⟩ | ⟨hf, ho⟩
      · rw [hf]
        show Calm d (if 0 ≤ o.n ∧ o.n ≤ (d.file f).seen.length then (d.tick.setFile f (Dk.cutF o.n.toNat), d.tick.told) else (d, 113)).1
        split
        · exact ⟨rfl, rfl, fun _ h => tick_off h⟩
        · exact Calm.refl d
      all_goals rw [hf]; exact Calm.refl d
    · unfold Dk.sync
      rcases find_cases d o.name with ⟨f, hf, hg, ho, hfa⟩ | ⟨hf, hg, ho, hfa⟩ | ⟨hf, ho, _⟩ | ⟨hf, ho⟩
      · rw [hf]
        show Calm d (if d.tick.off then d.tick else d.tick.setFile f Dk.syncF)
        split
        · exact Calm.tick d
        · exact ⟨rfl, rfl, fun _ h => tick_off h⟩
      all_goals rw [hf]; exact Calm.refl d
    · unfold Dk.syncNames
      split
      · exact Calm.refl d
      · show Calm d (if d.tick.off then d.tick else { d.tick with sure := chplay d.sure d.changes, changes := [] })
        split
        · exact Calm.tick d
        · exact ⟨rfl, rfl, fun _ h => tick_off h⟩
    · unfold Dk.rename
      rcases find_cases d o.name with ⟨f, hf, hg, ho, hfa⟩ | ⟨hf, hg, ho, hfa⟩ | ⟨hf, ho, _⟩ | ⟨hf, ho⟩
      · rw [hf]
        cases hfb : fair o.to_
        · simp [hfb]; exact Calm.refl d
        · by_cases e : o.name = o.to_
          · simp [hfb, e]; exact Calm.tick d
          · simp [hfb, e]; exact ⟨rfl, rfl, fun _ h => tick_off h⟩
      · rw [hf]
        cases hfb : fair o.to_ <;> simp [hfb] <;> exact Calm.refl d
      all_goals rw [hf]; simp; exact Calm.refl d
    · unfold Dk.remove
      rcases find_cases d o.name with ⟨f, hf, hg, ho, hfa⟩ | ⟨hf, hg, ho, hfa⟩ | ⟨hf, ho, _⟩ | ⟨hf, ho⟩
      · rw [hf]; exact ⟨rfl, rfl, fun _ h => tick_off h⟩
      all_goals rw [hf]; exact Calm.refl d
    · exact Calm.refl d
/-! ### what an append answers -/
theorem imgFind_map (W : Nat → By) (n : ByteArray) : ∀ m : AM, imgFind (m.map (fun x => (x.1, W x.2))) n = (aget m n).map W
  | [] => rfl
  | (a, f) :: r => by
    rw [List.map_cons, imgFind_cons, imgFind_map W n r]
    have e : aget ((a, f) :: r) n = if a = n then some f else aget r n := rfl
    rw [e]
    by_cases h : a = n
    · simp [h]
    · simp [h]
theorem find_image (d : Dk) (n : ByteArray) : imgFind d.image n = (aget d.names n).map (fun f => (d.file f).seen) := imgFind_map (fun f => (d.file f).seen) n d.names
theorem image_used (d : Dk) : (d.image.map (fun x => x.2.length)).sum = d.used := by
  unfold Dk.image Dk.used
  rw [List.map_map]; rfl
theorem tick_image (d : Dk) : d.tick.image = d.image := rfl
theorem room_append {d : Dk} (h : d.Inv) (hp : d.plan.from_ ≤ 0) (hpo : d.plan.off ≤ 0) (n : ByteArray) (b : By) :
    ((d.append n b).2 = 111 ∨ (d.append n b).2 = 115) ∨ ((d.append n b).2 = 114 ∧ ¬ d.used + b.length ≤ d.room ∧ (d.append n b).1.image = d.image) ∨
      ((d.append n b).2 = 0 ∧ d.used + b.length ≤ d.room ∧ imgFind (d.append n b).1.image n = some ((imgFind d.image n).getD [] ++ b)) := by
  have hto := tick_off hpo
  have htold : d.tick.told = 0 := by unfold Dk.told; rw [hto]; rfl
  rcases append_cases d n b with ⟨e, e2⟩ | ⟨_, _, _, ht, e⟩ | ⟨_, ht, f, hg, e⟩ | ⟨_, hfa, ht, hg, hl, e⟩
  · exact .inl e2
  · right; left
    rw [e, hto]
    refine ⟨rfl, ?_, rfl⟩
    unfold Dk.tight at ht
    have hpf : d.tick.planFull = false := by
      unfold Dk.planFull
      have : ¬ 0 < d.tick.plan.from_ := by show ¬ 0 < d.plan.from_; omega
      simp [this]
    rw [hpf, Bool.false_or] at ht
    have h1 : d.room - d.used < b.length := by simpa [Dk.tick, Dk.used, Dk.file] using ht
    omega
  · right; right
    rw [e]
    refine ⟨htold, tight_room ht h.ok.room, ?_⟩
    have hf := find_lt h hg
    rw [find_image, find_image]
    show (aget d.names n).map _ = _
    rw [hg]
    show some ((d.tick.setFile f (Dk.give b)).file f).seen = _
    rw [setFile_self d.tick f _ hf]; rfl
  · right; right
    rw [e]
    refine ⟨htold, tight_room ht h.ok.room, ?_⟩
    have hf : d.files.length < (d.mk1 n).files.length := by simp [Dk.mk1, Dk.change, Dk.fresh, Dk.tick]
    have hz : (d.mk1 n).file d.files.length = ⟨[], [], []⟩ := fresh_file (d := d.tick)
    rw [find_image, find_image, hg]
    show (aget (aput d.names n d.files.length) n).map _ = _
    rw [aget_put, if_pos rfl]
    show some (((d.mk1 n).setFile d.files.length (Dk.give b)).file d.files.length).seen = _
    rw [setFile_self (d.mk1 n) _ _ hf, hz]; rfl
end Go.Proofs.Ytonecajkfbdnmaa.Dk

namespace Go.Proofs.Ytonecajkfbdnmaa.Dk
open Go.Lib Go.RowKit Go.ChangeMaps Go.Proofs.Ytonecajkfbdnmaa.Mp Go.Proofs.YtonecajkfbdnmaaW.PrintWords Go.Proofs.YtonecajkfbdnmaaW.PrintLast Go.Proofs.YtonecajkfbdnmaaW.PrintMore Go.Proofs.Ytonecajkfbdnmaa.PDiskRoom
set_option linter.unusedVariables false
set_option linter.unusedSimpArgs false

def withinI (n m : Int) : Int := Int.tmod (wrap64 (Int.tmod n m + m)) m
theorem within_walk (n m : Int) (w : World) (hm : 0 < m) (hm2 : m ≤ 1000000000) : Calls Try.prog 22 #[.int .i64 n, .int .i64 m] w fun e w' => e = .returned (.int .i64 (withinI n m)) ∧ ∃ q, w' = w.drewN q := by
  refine (satchellaw11_within.calls n m (withinI n m) w (by unfold satchellaw11_within.f; rw [if_neg (by omega)]; rfl)).mono ?_
  rintro e w' ⟨h, q, hq⟩
  exact ⟨h, q, hq⟩
theorem tmod_bd (n m : Int) (hm : 0 < m) : -m < Int.tmod n m ∧ Int.tmod n m < m := by
  rcases Int.le_total 0 n with h | h
  · have h1 := Int.tmod_lt_of_pos n hm
    have h2 := Int.tmod_nonneg m h
    omega
  · have e : Int.tmod n m = - Int.tmod (-n) m := by rw [Int.neg_tmod]; omega
    have h1 := Int.tmod_lt_of_pos (-n) hm
    have h2 := Int.tmod_nonneg m (show 0 ≤ -n by omega)
    omega
theorem within_bd (n m : Int) (hm : 0 < m) (hm2 : m ≤ 1000000000) : 0 ≤ withinI n m ∧ withinI n m < m := by
  unfold withinI
  have h := tmod_bd n m hm
  have e : wrap64 (Int.tmod n m + m) = Int.tmod n m + m := by unfold wrap64; omega
  rw [e]
  have h2 := Int.tmod_nonneg m (show 0 ≤ Int.tmod n m + m by omega)
  have h3 := Int.tmod_lt_of_pos (Int.tmod n m + m) hm
  exact ⟨h2, h3⟩
theorem Out.of_in {own : Own} {w0 w : World} {A : Option Addr} {xs : List Int} (hC : Kd.C kB w0 A xs.length xs) (hb : Below w0.heap.size w0 w) (ho : ∀ k, k < w0.heap.size → own k = none) : Out own w A xs := by
  refine ⟨Kd.C_below hC hb, fun ad e hn => ?_⟩
  obtain ⟨ad', e', hc⟩ := C_cells hC hn
  rw [e] at e'
  obtain rfl := Option.some.inj e'
  have := World.block_lt_of_cell? w0 _ (hc 0 _ (by rw [List.getElem?_map, List.getElem?_eq_getElem hn]; rfl))
  have hb : (ad.add 0).block = ad.block := by unfold Addr.add; split <;> rfl
  rw [hb] at this
  exact ho _ this
theorem OpOk.few {o : S58} (h : OpOk o) : OpOk (fewM o) := by
  refine ⟨?_, ?_, h.name, h.to_, h.n⟩
  · show ints (toBy (o.f5.take 4096)) = o.f5.take 4096
    have e : ints (toBy (o.f5.take 4096)) = (ints (toBy o.f5)).take 4096 := by unfold ints toBy; rw [List.map_take, List.map_take]
    rw [e, h.bytes]
  · show (o.f5.take 4096).length ≤ _
    have := h.len
    have := List.length_take_le' 4096 o.f5
    omega
theorem fewOps_mem {l : List S58} {o : S58} (h : o ∈ fewOps l) : (1 ≤ o.f0 ∧ o.f0 ≤ 6) ∧ o.f5.length ≤ 4096 ∧ ∃ p ∈ l, o = fewM p := by
  unfold fewOps fewI at h
  obtain ⟨p, hp, rfl⟩ := List.mem_map.1 h
  obtain ⟨hp1, hp2⟩ := List.mem_filter.1 hp
  unfold fewB at hp2
  simp at hp2
  exact ⟨hp2, by show (p.f5.take 4096).length ≤ _; exact List.length_take_le _ _, p, List.mem_of_mem_take hp1, rfl⟩
theorem fewOps_len (l : List S58) : (fewOps l).length ≤ 200 := fewI_le l 200
/-- A step at its cells. -/
theorem op_at {w0 w : World} {A : Option Addr} {xs : List S58} (h : Kd.C (kO w0) w A xs.length xs) (i : Nat) (hi : i < xs.length) : ∃ ad A5 c5 A9 c9, A = some ad ∧ w.cell? (ad.add (i * 10)) = some (.int .i64 xs[i].f0) ∧
    w.cell? ⟨(ad.add (i * 10)).block, (ad.add (i * 10)).off + 1, none⟩ = some (.int .i64 xs[i].f1) ∧ w.cell? ⟨(ad.add (i * 10)).block, (ad.add (i * 10)).off + 2, none⟩ = some (.int .i64 xs[i].f2) ∧
    w.cell? ⟨(ad.add (i * 10)).block, (ad.add (i * 10)).off + 3, none⟩ = some (.string xs[i].f3) ∧ w.cell? ⟨(ad.add (i * 10)).block, (ad.add (i * 10)).off + 4, none⟩ = some (.string xs[i].f4) ∧
    w.cell? ⟨(ad.add (i * 10)).block, (ad.add (i * 10)).off + 5, none⟩ = some (.slice A5 xs[i].f5.length c5) ∧ w.cell? ⟨(ad.add (i * 10)).block, (ad.add (i * 10)).off + 6, none⟩ = some (.int .i64 xs[i].f6.f0) ∧
    w.cell? ⟨(ad.add (i * 10)).block, (ad.add (i * 10)).off + 7, none⟩ = some (.int .i64 xs[i].f6.f1) ∧ w.cell? ⟨(ad.add (i * 10)).block, (ad.add (i * 10)).off + 8, none⟩ = some (.int .i64 xs[i].f6.f2) ∧
    w.cell? ⟨(ad.add (i * 10)).block, (ad.add (i * 10)).off + 9, none⟩ = some (.slice A9 xs[i].f7.length c9) ∧ xs[i].f5.length ≤ c5 ∧ Kd.C kB w0 A5 xs[i].f5.length xs[i].f5 ∧ xs[i].f7.length ≤ c9 ∧ Kd.C (Kd.int .i64) w0 A9 xs[i].f7.length xs[i].f7 := by
  obtain ⟨ad, c, e, _, hK, hc0⟩ := Kd.C_get h z58 (i : Int) (by omega) (by omega)
  have hc : ∀ j u, c[j]? = some u → w.cell? (ad.add (i * 10 + j)) = some u := hc0
  rw [Int.toNat_natCast, List.getD_eq_getElem?_getD, List.getElem?_eq_getElem hi] at hK
  obtain ⟨A5, c5, A9, c9, rfl, l5, g5, l9, g9⟩ := k58_open (w := w0) hK
  exact ⟨ad, A5, c5, A9, c9, e, hc 0 _ rfl, by rw [← add_field _ _ 1 (by omega)]; exact hc 1 _ rfl, by rw [← add_field _ _ 2 (by omega)]; exact hc 2 _ rfl, by rw [← add_field _ _ 3 (by omega)]; exact hc 3 _ rfl, by rw [← add_field _ _ 4 (by omega)]; exact hc 4 _ rfl, by rw [← add_field _ _ 5 (by omega)]; exact hc 5 _ rfl, by rw [← add_field _ _ 6 (by omega)]; exact hc 6 _ rfl, by rw [← add_field _ _ 7 (by omega)]; exact hc 7 _ rfl, by rw [← add_field _ _ 8 (by omega)]; exact hc 8 _ rfl, by rw [← add_field _ _ 9 (by omega)]; exact hc 9 _ rfl, l5, g5, l9, g9⟩
/-- The bytes of the first k files. -/
def sumI (I : Img) (k : Nat) : Nat := ((I.take k).map (fun x => x.2.length)).sum
theorem sumI_succ (I : Img) (k : Nat) (hk : k < I.length) : sumI I (k + 1) = sumI I k + I[k].2.length := by
  unfold sumI
  rw [List.take_succ_eq_append_getElem hk, List.map_append, List.sum_append_nat]; simp
theorem sumI_le (I : Img) (k : Nat) : sumI I k ≤ (I.map (fun x => x.2.length)).sum := by
  unfold sumI
  have h := List.take_append_drop k I
  have : (I.map (fun x => x.2.length)).sum = ((I.take k).map (fun x => x.2.length)).sum + ((I.drop k).map (fun x => x.2.length)).sum := by
    rw [← List.sum_append_nat, ← List.map_append, h]
  omega
theorem R_img {w : World} {base : Nat} {ok : Nat → Prop} {A : Option Addr} {c : Nat} {a : Img} (h : Kd.R k28 28 w base ok (.slice A a.length c) (a.map encF)) : Kd.C k28 w A a.length (a.map encF) ∧ a.length ≤ c := by
  have h1 : (a.map encF).length = a.length := List.length_map ..
  rw [← h1] at h ⊢
  exact ⟨(Kd.R_reads' h).2.2, (Kd.R_reads' h).2.1⟩
theorem ints_append (a b : By) : ints (a ++ b) = ints a ++ ints b := by unfold ints; rw [List.map_append]
theorem R_sliceI {w : World} {base : Nat} {ok : Nat → Prop} {v : Value} {s : By} (h : Kd.R kB 5 w base ok v (ints s)) : ∃ A c, v = .slice A s.length c ∧ s.length ≤ c ∧ Kd.C kB w A s.length (ints s) := by
  obtain ⟨A, c, rfl, h1, h2⟩ := Kd.R_reads h
  rw [ints_length] at h1 h2 ⊢
  exact ⟨A, c, rfl, h1, h2⟩
theorem image_same (a : Img) (A B : Option Addr) (ca cb : Nat) (w : World) (hA : Kd.C k28 w A a.length (a.map encF) ∧ a.length ≤ ca) (hB : Kd.C k28 w B a.length (a.map encF) ∧ a.length ≤ cb) (hl : a.length ≤ 1000000000) (hM : ∀ x ∈ a, x.2.length ≤ 1000000000) :
    Calls Try.prog 20 #[.slice A a.length ca, .slice B a.length cb] w fun e w' => e = .returned (.bool true) ∧ Below w.heap.size w w' :=
  (image_walk a a A B ca cb w hA.1 hA.2 hB.1 hB.2 hl hM).mono (fun e w' ⟨h1, m, h2⟩ => ⟨by rw [h1]; simp, h2 ▸ below_drewN' w m⟩)
theorem toBy_len (l : List Int) : (toBy l).length = l.length := by simp [toBy]
end Go.Proofs.Ytonecajkfbdnmaa.Dk
