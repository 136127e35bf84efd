/- Plain law of Load and DiskAgain: a disk that was loaded; how many bytes a crash can leave. No program. -/
import Derived.Test.YtonecajkfbdnmaaEv
import Derived.Test.YtonecajkfbdnmaaEy
import Derived.Laws.Cover1
import Derived.IntWalk
namespace Go.Proofs.Ytonecajkfbdnmaa.Dk
set_option linter.unusedVariables false
set_option linter.unusedSimpArgs false

/-- A file more, all safe. -/
def Dk.put (d : Dk) (n : ByteArray) (s : By) : Dk := { d with files := d.files ++ [⟨s, [], s⟩], names := aput d.names n d.files.length, sure := aput d.sure n d.files.length }
def tab : Img → Nat → AM
  | [], _ => []
  | x :: I, s => (x.1, s) :: tab I (s + 1)
def loadDk (room : Nat) (I : Img) : Dk := ⟨room, false, tab I 0, tab I 0, [], 0, 0, ⟨0, 0, 0⟩, I.map (fun x => ⟨x.2, [], x.2⟩)⟩
def ISrt (I : Img) : Prop := I.Pairwise (fun x y => bl x.1 < bl y.1)
theorem tab_snoc (x : ByteArray × By) : ∀ (I : Img) (s : Nat), tab (I ++ [x]) s = tab I s ++ [(x.1, s + I.length)]
  | [], s => rfl
  | y :: I, s => by
    show (y.1, s) :: tab (I ++ [x]) (s + 1) = (y.1, s) :: (tab I (s + 1) ++ [(x.1, s + (I.length + 1))])
    rw [tab_snoc x I (s + 1), show s + 1 + I.length = s + (I.length + 1) by omega]
theorem tab_len : ∀ (I : Img) (s : Nat), (tab I s).length = I.length
  | [], _ => rfl
  | x :: I, s => by show (tab I (s + 1)).length + 1 = I.length + 1; rw [tab_len I]
theorem tab_mem : ∀ (I : Img) (s : Nat) (y : ByteArray × Nat), y ∈ tab I s → (∃ x ∈ I, x.1 = y.1) ∧ s ≤ y.2 ∧ y.2 < s + I.length
  | [], _, y, h => by cases h
  | x :: I, s, y, h => by
    rcases List.mem_cons.1 h with rfl | h
    · exact ⟨⟨x, List.mem_cons_self .., rfl⟩, Nat.le_refl _, by show s < s + (I.length + 1); omega⟩
    · obtain ⟨⟨z, hz, e⟩, h1, h2⟩ := tab_mem I (s + 1) y h
      exact ⟨⟨z, List.mem_cons_of_mem _ hz, e⟩, by omega, by show y.2 < s + (I.length + 1); omega⟩
theorem tab_srt : ∀ (I : Img) (s : Nat), ISrt I → Srt (tab I s)
  | [], _, _ => List.Pairwise.nil
  | x :: I, s, h => by
    obtain ⟨h1, h2⟩ := List.pairwise_cons.1 h
    refine List.pairwise_cons.2 ⟨fun y hy => ?_, tab_srt I (s + 1) h2⟩
    obtain ⟨⟨z, hz, e⟩, _⟩ := tab_mem I (s + 1) y hy
    rw [← e]
    exact h1 z hz
theorem tab_nd : ∀ (I : Img) (s : Nat), ((tab I s).map (·.2)).Nodup
  | [], _ => List.Pairwise.nil
  | x :: I, s => by
    refine List.nodup_cons.2 ⟨fun h => ?_, tab_nd I (s + 1)⟩
    obtain ⟨y, hy, e⟩ := List.mem_map.1 h
    have := (tab_mem I (s + 1) y hy).2.1
    have e' : y.2 = s := e
    omega
theorem aput_end (k : ByteArray) (v : Nat) : ∀ m : AM, (∀ x ∈ m, bl x.1 < bl k) → aput m k v = m ++ [(k, v)]
  | [], _ => rfl
  | (a, f) :: r, h => by
    have h1 := h (a, f) (List.mem_cons_self ..)
    have h2 : a ≠ k := lt_ne h1
    have h3 : ¬ bl k < bl a := fun h4 => lt_irrefl _ (List.lt_trans h1 h4)
    show (if a = k then (a, v) :: r else if bl k < bl a then (k, v) :: (a, f) :: r else (a, f) :: aput r k v) = _
    rw [if_neg h2, if_neg h3, aput_end k v r (fun x hx => h x (List.mem_cons_of_mem _ hx))]
    rfl
theorem loadDk_put (room : Nat) (I : Img) (x : ByteArray × By) (h : ISrt (I ++ [x])) : (loadDk room I).put x.1 x.2 = loadDk room (I ++ [x]) := by
  have h1 : ∀ y ∈ I, bl y.1 < bl x.1 := fun y hy => (List.pairwise_append.1 h).2.2 y hy x (List.mem_singleton.2 rfl)
  have h2 : aput (tab I 0) x.1 I.length = tab I 0 ++ [(x.1, I.length)] := aput_end _ _ _ (fun y hy => by
    obtain ⟨⟨z, hz, e⟩, _⟩ := tab_mem I 0 y hy
    rw [← e]; exact h1 z hz)
  have h3 : tab (I ++ [x]) 0 = tab I 0 ++ [(x.1, I.length)] := by rw [tab_snoc, Nat.zero_add]
  unfold Dk.put loadDk
  simp only [List.length_map, List.map_append, List.map_cons, List.map_nil, h2, h3]
theorem loadDk_file (room : Nat) (I : Img) (i : Nat) (hi : i < I.length) : (loadDk room I).file i = ⟨I[i].2, [], I[i].2⟩ := by
  show (I.map (fun x => (⟨x.2, [], x.2⟩ : Fl))).getD i ⟨[], [], []⟩ = _
  rw [List.getD_eq_getElem?_getD, List.getElem?_map, List.getElem?_eq_getElem hi]; rfl
theorem tab_image (J : Img) (d : Dk) : ∀ (I : Img) (s : Nat), (∀ i (hi : i < I.length), (d.file (s + i)).seen = I[i].2) → (tab I s).map (fun x => (x.1, (d.file x.2).seen)) = I
  | [], _, _ => rfl
  | x :: I, s, h => by
    have h0 := h 0 (by simp)
    show (x.1, (d.file s).seen) :: (tab I (s + 1)).map _ = _
    rw [tab_image J d I (s + 1) (fun i hi => by
      have h9 := h (i + 1) (by show i + 1 < I.length + 1; omega)
      rw [show s + 1 + i = s + (i + 1) by omega]
      exact h9)]
    have e : (d.file s).seen = x.2 := h0
    rw [e]
theorem loadDk_image (room : Nat) (I : Img) : (loadDk room I).image = I := tab_image I _ I 0 (fun i hi => by rw [Nat.zero_add, loadDk_file room I i hi])
theorem tab_crash (d : Dk) : ∀ (I : Img) (s : Nat) (r : List Int), (∀ i (hi : i < I.length), d.file (s + i) = ⟨I[i].2, [], I[i].2⟩) → d.crashFiles (tab I s) r = I
  | [], _, _, _ => rfl
  | x :: I, s, r, h => by
    have h0 : d.file s = ⟨x.2, [], x.2⟩ := h 0 (by simp)
    show (x.1, d.part s (nextP r (d.file s).units.length).1) :: d.crashFiles (tab I (s + 1)) (nextP r (d.file s).units.length).2 = _
    rw [tab_crash d I (s + 1) _ (fun i hi => by
      have h9 := h (i + 1) (by show i + 1 < I.length + 1; omega)
      rw [show s + 1 + i = s + (i + 1) by omega]
      exact h9)]
    have e : ∀ k, d.part s k = x.2 := fun k => by unfold Dk.part; rw [h0]; simp [unplay]
    rw [e]
theorem loadDk_crash (room : Nat) (I : Img) (l : List Int) : (loadDk room I).crash l = I := by
  show (loadDk room I).crashFiles (chplay (tab I 0) (([] : List Ch).take _)) _ = I
  rw [List.take_nil]
  exact tab_crash _ I 0 _ (fun i hi => by rw [Nat.zero_add, loadDk_file room I i hi])
/-- An image that may be. -/
structure IOk (room : Nat) (I : Img) : Prop where
  few : I.length ≤ 64
  srt : ISrt I
  fa : ∀ x ∈ I, fair x.1 = true
  sum : (I.map (fun x => x.2.length)).sum ≤ room
theorem loadDk_on {room : Nat} {I : Img} (h : IOk room I) (hr : room ≤ 67108864) {B : Nat} (hB : ∀ x ∈ I, x.2.length ≤ B) : On (loadDk room I) B := by
  have hlt : ∀ x ∈ tab I 0, x.2 < (loadDk room I).files.length := fun x hx => by
    have := (tab_mem I 0 x hx).2.2
    show x.2 < (I.map _).length
    rw [List.length_map]; omega
  have hfl : ∀ f ∈ (loadDk room I).files, f.ok := fun f hf => by
    obtain ⟨x, hx, rfl⟩ := List.mem_map.1 hf
    exact ⟨trivial, rfl⟩
  have hused : (loadDk room I).used ≤ room := by
    rw [← image_used, loadDk_image]; exact h.sum
  have hnok : NOk (tab I 0) (loadDk room I).files.length := ⟨tab_srt I 0 h.srt, hlt, tab_nd I 0, by rw [tab_len]; exact h.few, fun x hx => by
    obtain ⟨⟨z, hz, e⟩, _⟩ := tab_mem I 0 x hx
    rw [← e]; exact h.fa z hz⟩
  have hf : ∀ f, f < (loadDk room I).files.length → ∃ x ∈ I, (loadDk room I).file f = ⟨x.2, [], x.2⟩ := fun f hf => by
    have hf' : f < I.length := by
      have : (loadDk room I).files.length = I.length := List.length_map ..
      omega
    exact ⟨I[f], List.getElem_mem hf', loadDk_file room I f hf'⟩
  refine ⟨⟨⟨hnok.srt, hnok.srt, rfl, trivial, hlt, hlt, fun n f hc => (by cases hc), hnok.nd, hfl, hnok.few, hused⟩, fun n => ?_, hr⟩, ⟨Nat.zero_le _, Nat.zero_le _, Nat.zero_le _, fun f h1 => ?_, fun f h1 => ?_, fun f h1 => ?_, hr⟩, rfl, Int.le_refl _⟩
  · show NOk (chplay (tab I 0) (([] : List Ch).take n)) _
    rw [List.take_nil]; exact hnok
  · obtain ⟨x, hx, e⟩ := hf f h1; rw [e]; exact Nat.zero_le _
  · obtain ⟨x, hx, e⟩ := hf f h1; rw [e]; exact hB x hx
  · obtain ⟨x, hx, e⟩ := hf f h1; rw [e]; exact hB x hx
/-! ### how many bytes a crash can leave -/
def adds : List Un → Nat
  | [] => 0
  | .add _ :: l => adds l + 1
  | .cut _ :: l => adds l
def wF (x : Fl) : Nat := x.kept.length + adds x.units
def Dk.wt (d : Dk) : Nat := (d.files.map wF).sum
theorem adds_app : ∀ (l m : List Un), adds (l ++ m) = adds l + adds m
  | [], m => by simp [adds]
  | .add _ :: l, m => by show adds (l ++ m) + 1 = adds l + 1 + adds m; rw [adds_app l m]; omega
  | .cut _ :: l, m => by show adds (l ++ m) = adds l + adds m; exact adds_app l m
theorem adds_map (b : By) : adds (b.map .add) = b.length := by
  induction b with
  | nil => rfl
  | cons c b ih => show adds (b.map .add) + 1 = b.length + 1; rw [ih]
theorem adds_take : ∀ (l : List Un) (k : Nat), adds (l.take k) ≤ adds l
  | [], k => by simp [adds]
  | u :: l, 0 => Nat.zero_le _
  | .add _ :: l, k + 1 => Nat.succ_le_succ (adds_take l k)
  | .cut _ :: l, k + 1 => adds_take l k
theorem unplay_adds : ∀ (us : List Un) (s : By), (unplay s us).length ≤ s.length + adds us
  | [], s => by simp [unplay, adds]
  | .add b :: us, s => by
    have := unplay_adds us (s ++ [b])
    show (unplay (s ++ [b]) us).length ≤ s.length + (adds us + 1)
    simp at this ⊢; omega
  | .cut n :: us, s => by
    have := unplay_adds us (s.take n)
    show (unplay (s.take n) us).length ≤ s.length + adds us
    simp at this ⊢; omega
theorem part_wt (d : Dk) (f k : Nat) : (d.part f k).length ≤ wF (d.file f) := by
  have h1 := unplay_adds ((d.file f).units.take k) (d.file f).kept
  have h2 := adds_take (d.file f).units k
  show (unplay (d.file f).kept ((d.file f).units.take k)).length ≤ _
  unfold wF
  omega
theorem sum_modify (g : Fl → Fl) (c : Nat) : ∀ (l : List Fl) (f : Nat), (∀ x ∈ l, wF (g x) ≤ wF x + c) → ((l.modify f g).map wF).sum ≤ (l.map wF).sum + c
  | [], f, h => by simp
  | x :: l, 0, h => by
    have := h x (List.mem_cons_self ..)
    simp; omega
  | x :: l, f + 1, h => by
    have := sum_modify g c l f (fun y hy => h y (List.mem_cons_of_mem _ hy))
    simp; omega
theorem setFile_wt (d : Dk) (f : Nat) (g : Fl → Fl) (c : Nat) (h : ∀ x ∈ d.files, wF (g x) ≤ wF x + c) : (d.setFile f g).wt ≤ d.wt + c := sum_modify g c d.files f h
theorem give_wt (b : By) (x : Fl) : wF (Dk.give b x) = wF x + b.length := by
  show x.kept.length + adds (x.units ++ b.map .add) = x.kept.length + adds x.units + b.length
  rw [adds_app, adds_map]; omega
theorem cut_wt (n : Nat) (x : Fl) : wF (Dk.cutF n x) ≤ wF x := by
  unfold Dk.cutF
  split
  · show x.kept.length + adds (x.units ++ [.cut n]) ≤ x.kept.length + adds x.units
    rw [adds_app]; exact Nat.le_refl _
  · exact Nat.le_refl _
theorem sync_wt {x : Fl} (h : x.ok) : wF (Dk.syncF x) ≤ wF x := by
  show x.seen.length + 0 ≤ x.kept.length + adds x.units
  rw [h.2]
  exact unplay_adds x.units x.kept
theorem fresh_wt (d : Dk) : d.fresh.wt = d.wt := by
  show ((d.files ++ [(⟨[], [], []⟩ : Fl)]).map wF).sum = (d.files.map wF).sum
  rw [List.map_append, List.sum_append_nat]; rfl
theorem play_wt {d : Dk} (h : d.Inv) (o : POp) : (d.play o).1.wt ≤ d.wt + o.b.length := by
  have ht : d.tick.wt = d.wt := rfl
  unfold Dk.play
  split
  · exact Nat.le_add_right _ _
  · obtain ⟨k, hk⟩ : ∃ k, o.kind.toNat = k := ⟨_, rfl⟩
    rw [hk]
    match k with
    | 0 => exact Nat.le_add_right _ _
    | 1 =>
      show (d.append o.name o.b).1.wt ≤ _
      unfold Dk.append
      rcases d.find o.name with ⟨x, e⟩
      simp only
      split
      · exact Nat.le_add_right _ _
      · split
        · exact Nat.le_add_right _ _
        · split
          · exact Nat.le_add_right _ _
          · cases x with
            | some f => exact setFile_wt d.tick f _ _ (fun x _ => Nat.le_of_eq (give_wt o.b x))
            | none =>
              have h1 := setFile_wt (d.tick.fresh.change (.makes o.name d.files.length)) d.files.length (Dk.give o.b) o.b.length (fun x _ => Nat.le_of_eq (give_wt o.b x))
              have h2 : (d.tick.fresh.change (.makes o.name d.files.length)).wt = d.wt := fresh_wt d.tick
              rw [h2] at h1
              exact h1
    | 2 =>
      show (d.cut o.name o.n).1.wt ≤ _
      unfold Dk.cut
      rcases d.find o.name with ⟨_ | f, e⟩
      · exact Nat.le_add_right _ _
      · simp only
        split
        · exact Nat.le_trans (setFile_wt d.tick f _ 0 (fun x _ => cut_wt _ x)) (Nat.le_add_right _ _)
        · exact Nat.le_add_right _ _
    | 3 =>
      show (d.sync o.name).1.wt ≤ _
      unfold Dk.sync
      rcases d.find o.name with ⟨_ | f, e⟩
      · exact Nat.le_add_right _ _
      · simp only
        split
        · exact Nat.le_add_right _ _
        · exact Nat.le_trans (setFile_wt d.tick f _ 0 (fun x hx => sync_wt (h.ok.fl x hx))) (Nat.le_add_right _ _)
    | 4 =>
      show d.syncNames.1.wt ≤ _
      unfold Dk.syncNames
      split
      · exact Nat.le_add_right _ _
      · simp only
        split
        · exact Nat.le_add_right _ _
        · exact Nat.le_add_right _ _
    | 5 =>
      show (d.rename o.name o.to_).1.wt ≤ _
      unfold Dk.rename
      rcases d.find o.name with ⟨x, e⟩
      simp only
      split
      · exact Nat.le_add_right _ _
      · split
        · exact Nat.le_add_right _ _
        · split
          · exact Nat.le_add_right _ _
          · split
            · exact Nat.le_add_right _ _
            · exact Nat.le_add_right _ _
    | 6 =>
      show (d.remove o.name).1.wt ≤ _
      unfold Dk.remove
      rcases d.find o.name with ⟨_ | f, e⟩
      · exact Nat.le_add_right _ _
      · exact Nat.le_add_right _ _
    | k + 7 => exact Nat.le_add_right _ _
theorem sum_idx (a : Nat → Nat) : ∀ (L : Nat) (idx : List Nat), idx.Nodup → (∀ i ∈ idx, i < L) → (idx.map a).sum ≤ ((List.range L).map a).sum
  | 0, idx, _, h => by
    cases idx with
    | nil => exact Nat.le_refl _
    | cons i r => have := h i (List.mem_cons_self ..); omega
  | L + 1, idx, hn, h => by
    rw [List.range_succ, List.map_append, List.sum_append_nat]
    by_cases hm : L ∈ idx
    · have hp := List.perm_cons_erase hm
      have h1 := (hp.map a).sum_nat
      rw [h1]
      have h2 := sum_idx a L (idx.erase L) (hn.erase L) (fun i hi => by
        have h3 := h i (List.mem_of_mem_erase hi)
        have h4 : i ≠ L := fun e => by subst e; exact (List.Nodup.not_mem_erase hn) hi
        omega)
      simp only [List.map_cons, List.sum_cons, List.map_nil, List.sum_nil]
      omega
    · have h2 := sum_idx a L idx hn (fun i hi => by
        have h3 := h i hi
        have h4 : i ≠ L := fun e => by subst e; exact hm hi
        omega)
      omega
theorem sum_range (d : Dk) : ((List.range d.files.length).map (fun f => wF (d.file f))).sum = d.wt := by
  unfold Dk.wt
  congr 1
  apply List.ext_getElem
  · simp
  · intro i h1 h2
    simp at h1 h2
    simp [Dk.file, h2]
theorem crashF_sum (d : Dk) : ∀ (m : AM) (r : List Int), ((d.crashFiles m r).map (fun x => x.2.length)).sum ≤ ((m.map (·.2)).map (fun f => wF (d.file f))).sum
  | [], _ => Nat.le_refl _
  | (n, f) :: m, r => by
    have h1 := crashF_sum d m (nextP r (d.file f).units.length).2
    have h2 := part_wt d f (nextP r (d.file f).units.length).1
    show (d.part f (nextP r (d.file f).units.length).1).length + ((d.crashFiles m (nextP r (d.file f).units.length).2).map (fun x => x.2.length)).sum ≤ wF (d.file f) + ((m.map (·.2)).map (fun f => wF (d.file f))).sum
    omega
theorem crashF_names (d : Dk) : ∀ (m : AM) (r : List Int), (d.crashFiles m r).map (·.1) = m.map (·.1)
  | [], _ => rfl
  | (n, f) :: m, r => by
    show n :: (d.crashFiles m (nextP r (d.file f).units.length).2).map (·.1) = n :: m.map (·.1)
    rw [crashF_names d m]
/-- What a crash leaves may be loaded. -/
theorem crash_ok {d : Dk} (h : d.Inv) (hw : d.wt ≤ 67108864) (l : List Int) : IOk 67108864 (d.crash l) := by
  have hn := h.pre (nextP l d.changes.length).1
  obtain ⟨m, hm⟩ : ∃ m, chplay d.sure (d.changes.take (nextP l d.changes.length).1) = m := ⟨_, rfl⟩
  obtain ⟨r, hr⟩ : ∃ r, (nextP l d.changes.length).2 = r := ⟨_, rfl⟩
  have e : d.crash l = d.crashFiles m r := by unfold Dk.crash; rw [hm, hr]
  rw [hm] at hn
  rw [e]
  have hnames := crashF_names d m r
  refine ⟨by rw [crashF_length]; exact hn.few, ?_, fun x hx => ?_, ?_⟩
  · have h1 : ((d.crashFiles m r).map (·.1)).Pairwise (fun a b => bl a < bl b) := by
      rw [hnames]; exact List.pairwise_map.2 hn.srt
    exact (List.pairwise_map (R := fun a b => bl a < bl b)).1 h1
  · have h1 : x.1 ∈ (d.crashFiles m r).map (·.1) := List.mem_map.2 ⟨x, hx, rfl⟩
    rw [hnames] at h1
    obtain ⟨y, hy, e2⟩ := List.mem_map.1 h1
    have e3 : y.1 = x.1 := e2
    rw [← e3]; exact hn.fa y hy
  · have h1 := crashF_sum d m r
    have h2 := sum_idx (fun f => wF (d.file f)) d.files.length (m.map (·.2)) hn.nd (fun i hi => by
      obtain ⟨y, hy, rfl⟩ := List.mem_map.1 hi
      exact hn.lt y hy)
    rw [sum_range] at h2
    omega
end Go.Proofs.Ytonecajkfbdnmaa.Dk

namespace Go.Proofs.Ytonecajkfbdnmaa.Mp
open Go Go.RowKit Go.ChangeMaps Go.MapKept Go.Instr
set_option linter.unusedVariables false
set_option linter.unusedSimpArgs false
theorem modify_last {α : Type} (f : α → α) (x : α) : ∀ l : List α, (l ++ [x]).modify l.length f = l ++ [f x]
  | [] => rfl
  | y :: l => by
    show y :: (l ++ [x]).modify l.length f = y :: (l ++ [f x])
    rw [modify_last f x l]
section
variable {P : Program} {w : World} {b : Nat} {kv : KV} {T K E : TypeId}
theorem SMap.entry_new (h : SMap w b kv) (hT : P.underlying T = some (.map K E)) (hK : P.underlying K = some .string) {z : Value} (hz : (zeroValue E).run P w = .ok z w) (k : ByteArray) (hk : kget kv k = none) :
    ∃ (st : Nat) (w1 : World), (Instr.mapEntry T (.map (some b)) (.string k)).run P w = .ok (.tuple #[z, .int .i64 (st : Int)]) w1 ∧ w.grownBy w1 (some b) ∧
      ∀ v, ∃ w2, (Instr.entryStore T (.map (some b)) (.int .i64 (st : Int)) v).run P w1 = .ok () w2 ∧ w.grownBy w2 (some b) ∧ SMap w2 b (kput kv k v) := by
  have hlt := h.lt
  obtain ⟨es, clock, hb, hm, hborn, hnd⟩ := h
  have h1 : (Instr.checkKey false 10000 K (.string k)).run P w = .ok () w := run_checkKey (P := P) (w := w) hK (isKey k) false 9999
  rcases find_ix k es.toList kv hm with ⟨g1, g2, _, g4⟩ | ⟨j, v0, e, g1, _⟩
  · have h2 := run_findKey (P := P) (w := w) hK (g4 0)
    have hb1 := (heap_set (o' := Obj.map (es.push { key := .string k, val := z, born := clock }) (clock + 1)) hb)
    refine ⟨clock, setBlock w b (.map (es.push { key := .string k, val := z, born := clock }) (clock + 1)), ?_, ⟨rfl, rfl, rfl, by simp [setBlock], fun i _ hi => hb1.2 i (fun e => hi (by rw [e]))⟩, fun v => ?_⟩
    · simp [Instr.mapEntry, run_underlying hT, MapKept.run_getObj_map (P := P) hb, Result.andThen, h1, h2, hz, MapKept.run_setObj_map (P := P) _ hb, setBlock, goInt]
    · have hbb : (setBlock w b (.map (es.push { key := .string k, val := z, born := clock }) (clock + 1))).heap[b]? = some (.map (es.push { key := .string k, val := z, born := clock }) (clock + 1)) := hb1.1
      have hix : (es.push { key := .string k, val := z, born := clock }).findIdx? (fun e => (e.born : Int) == (clock : Int)) = some es.size := by
        rw [Array.findIdx?_push]
        have hn : es.findIdx? (fun e => (e.born : Int) == (clock : Int)) = none := by
          rw [Array.findIdx?_eq_none_iff]
          intro x hx
          have := hborn x (by simpa using hx)
          simp; omega
        rw [hn]; simp
      have hb2 := (heap_set (o' := Obj.map ((es.push { key := .string k, val := z, born := clock }).modify es.size (fun e => { e with val := v })) (clock + 1)) hbb)
      refine ⟨setBlock (setBlock w b (.map (es.push { key := .string k, val := z, born := clock }) (clock + 1))) b (.map ((es.push { key := .string k, val := z, born := clock }).modify es.size (fun e => { e with val := v })) (clock + 1)), ?_, ⟨rfl, rfl, rfl, by simp [setBlock], fun i _ hi => (hb2.2 i (fun e => hi (by rw [e]))).trans (hb1.2 i (fun e => hi (by rw [e])))⟩, _, _, hb2.1, ?_, ?_, ?_⟩
      · generalize setBlock w b (.map (es.push { key := .string k, val := z, born := clock }) (clock + 1)) = w1 at hbb
        simp only [Instr.entryStore, Sem.run_bind, MapKept.run_getObj_map (P := P) hbb, Result.andThen, asInt, asIntOf]
        simp [hix, MapKept.run_setObj_map (P := P) _ hbb, setBlock, Result.andThen]
      · rw [g2, Array.toList_modify, Array.toList_push, ← Array.length_toList, modify_last]; simp [hm, F, G]
      · intro e he
        rw [Array.toList_modify, Array.toList_push, ← Array.length_toList, modify_last] at he
        simp at he
        rcases he with he | rfl
        · have := hborn e (by simpa using he); omega
        · simp
      · rw [Array.toList_modify, Array.toList_push, ← Array.length_toList, modify_last]
        simp only [List.map_append, List.map_cons, List.map_nil]
        rw [List.nodup_append]
        refine ⟨hnd, by simp, ?_⟩
        intro x hx y hy
        simp at hy
        subst hy
        obtain ⟨e, he, rfl⟩ := List.mem_map.1 hx
        have := hborn e he
        omega
  · rw [hk] at g1; cases g1
end
end Go.Proofs.Ytonecajkfbdnmaa.Mp
namespace Go.Proofs.Ytonecajkfbdnmaa.Dk
open Go.Lib Go.RowKit Go.ChangeMaps Go.Proofs.Ytonecajkfbdnmaa.Mp Go.Proofs.YtonecajkfbdnmaaW.PrintWords Go.Proofs.YtonecajkfbdnmaaW.PrintLast Go.Proofs.YtonecajkfbdnmaaW.PrintMore Go.Proofs.Ytonecajkfbdnmaa.PDiskRoom Go.Proofs.Ytonecajkfbdnmaa.Dw
set_option linter.unusedVariables false
set_option linter.unusedSimpArgs false
theorem Rep.put {own own' : Own} {w w' : World} {kd : Nat} {blk : Nat → Nat} {d : Dk} (h : Rep own w kd blk d) (hn : Srt d.names) (hs : Srt d.sure) (l1 : ∀ x ∈ d.names, x.2 < d.files.length) (l2 : ∀ x ∈ d.sure, x.2 < d.files.length) (hch : d.changes = [])
    (n : ByteArray) (s : By) {kn ks b : Nat} {vc vk vs : Value} {kvn kvs : KV} (o1 : own kn = some .names) (o2 : own ks = some .sure) (hkd : w.heap[kd]? = some (.cells (cells d kn ks vc) 81 (0, 0)))
    (hr : Kd.R kC 99 w 0 (fun k => own k = some .changes) vc (d.changes.map (encC blk))) (i1 : KvIs kvn d.names blk) (i2 : KvIs kvs d.sure blk)
    (old : ∀ k r, own k = some r → own' k = some r) (lt' : ∀ k r, own' k = some r → k < w'.heap.size) (hob : own' b = some (.file d.files.length))
    (hfile : w'.heap[b]? = some (.cells #[vk, .slice none 0 0, vs] 77 (0, 0))) (hk : Kd.R kB 5 w' 0 (fun k => own' k = some (.kept d.files.length)) vk (ints s)) (hv : Kd.R kB 5 w' 0 (fun k => own' k = some (.seen d.files.length)) vs (ints s))
    (m1 : SMap w' kn (kput kvn n (ptr b))) (m2 : SMap w' ks (kput kvs n (ptr b))) (same : ∀ k, k < w.heap.size → k ≠ kn → k ≠ ks → w'.heap[k]? = w.heap[k]?) :
    Rep own' w' kd (blkx blk d.files.length b) (d.put n s) := by
  have far : ∀ k r, own k = some r → r ≠ .names → r ≠ .sure → w'.heap[k]? = w.heap[k]? := fun k r hk h1 h2 => same k (h.lt k r hk) (fun e => h1 (by rw [e, o1] at hk; exact (Option.some.inj hk).symm)) (fun e => h2 (by rw [e, o2] at hk; exact (Option.some.inj hk).symm))
  have j1 : KvIs (kput kvn n (ptr b)) (aput d.names n d.files.length) (blkx blk d.files.length b) := by
    have h9 := (i1.blk (blk' := blkx blk d.files.length b) hn (fun x hx => blkx_old (l1 x hx))).put n d.files.length
    rw [blkx_same] at h9; exact h9
  have j2 : KvIs (kput kvs n (ptr b)) (aput d.sure n d.files.length) (blkx blk d.files.length b) := by
    have h9 := (i2.blk (blk' := blkx blk d.files.length b) hs (fun x hx => blkx_old (l2 x hx))).put n d.files.length
    rw [blkx_same] at h9; exact h9
  refine ⟨lt', old _ _ h.dk, fun f hf => ?_, ⟨kn, ks, vc, old _ _ o1, old _ _ o2, (far _ _ h.dk (by simp) (by simp)).trans hkd, ⟨_, m1, j1⟩, ⟨_, m2, j2⟩, ?_⟩, fun f hf => ?_⟩
  · by_cases e : f = d.files.length
    · subst e; rw [blkx_same]; exact hob
    · have hf' : f < d.files.length := by simp [Dk.put] at hf; omega
      rw [blkx_old hf']; exact old _ _ (h.fl f hf')
  · have e : (d.put n s).changes.map (encC (blkx blk d.files.length b)) = d.changes.map (encC blk) := by
      show d.changes.map _ = _
      rw [hch]; rfl
    rw [e]
    exact Kd.R_mono (Kd.R_step hr (fun k hk _ => far k _ hk (by simp) (by simp))) (fun k hk => old k _ hk)
  · by_cases e : f = d.files.length
    · subst e
      have e2 : (d.put n s).files[d.files.length] = ⟨s, [], s⟩ := by simp [Dk.put]
      rw [e2, blkx_same]
      exact ⟨_, _, _, hfile, hk, Kd.R_nil _ _ _ _ _, hv⟩
    · have hf' : f < d.files.length := by simp [Dk.put] at hf; omega
      have e2 : (d.put n s).files[f] = d.files[f] := by simp [Dk.put, List.getElem_append_left hf']
      rw [e2, blkx_old hf']
      obtain ⟨vk, vu, vs, h0, h1, h2, h3⟩ := h.files f hf'
      exact ⟨vk, vu, vs, (far _ _ (h.fl f hf') (by simp) (by simp)).trans h0, Kd.R_mono (Kd.R_step h1 (fun k hk _ => far k _ hk (by simp) (by simp))) (fun k hk => old k _ hk), Kd.R_mono (Kd.R_step h2 (fun k hk _ => far k _ hk (by simp) (by simp))) (fun k hk => old k _ hk), Kd.R_mono (Kd.R_step h3 (fun k hk _ => far k _ hk (by simp) (by simp))) (fun k hk => old k _ hk)⟩
theorem cell_far {w w' : World} {r : Option Nat} (hg : w.grownBy w' r) {p : Addr} {v : Value} (hc : w.cell? p = some v) (hne : some p.block ≠ r) : w'.cell? p = some v := cell_row hg hc hne
/-- What Load's round leaves: the clones, the file's block, the two entries. -/
theorem load_entry {own : Own} {wr : World} {kd : Nat} {blk : Nat → Nat} {d : Dk} (h : Rep own wr kd blk d) (hn : Srt d.names) (hs : Srt d.sure) (l1 : ∀ x ∈ d.names, x.2 < d.files.length) (l2 : ∀ x ∈ d.sure, x.2 < d.files.length) (hch : d.changes = [])
    {n : ByteArray} {s : By} (g1 : aget d.names n = none) (g2 : aget d.sure n = none) {w2 w3 : World} {b0 : Nat} {v2 v3 : Value} (hb0 : wr.heap.size ≤ b0) (hb02 : b0 ≤ w2.heap.size) (hb2 : Below wr.heap.size wr w2) (r2 : Kd.R kB 5 w2 b0 (fun k => b0 ≤ k) v2 (ints s))
    (hb3 : Below w2.heap.size w2 w3) (r3 : Kd.R kB 5 w3 w2.heap.size (fun k => w2.heap.size ≤ k) v3 (ints s)) {W : World} (hW : w3.alloc (.cells #[v2, .slice none 0 0, v3] 77) = W) :
    ∃ (kn ks st1 st2 : Nat) (wa wb wc wd : World) (own' : Own) (blk' : Nat → Nat), W.drew.cell? ⟨kd, 2, none⟩ = some (.map (some kn)) ∧ W.drew.cell? ⟨kd, 3, none⟩ = some (.map (some ks)) ∧
      (Instr.mapEntry 78 (.map (some kn)) (.string n)).run Try.prog W.drew = .ok (.tuple #[.pointer none, .int .i64 (st1 : Int)]) wa ∧ (Instr.entryStore 78 (.map (some kn)) (.int .i64 (st1 : Int)) (ptr w3.heap.size)).run Try.prog wa = .ok () wb ∧
      (Instr.mapEntry 78 (.map (some ks)) (.string n)).run Try.prog wb = .ok (.tuple #[.pointer none, .int .i64 (st2 : Int)]) wc ∧ (Instr.entryStore 78 (.map (some ks)) (.int .i64 (st2 : Int)) (ptr w3.heap.size)).run Try.prog wc = .ok () wd ∧
      (∀ p v, W.drew.cell? p = some v → (p.block = kd ∨ wr.heap.size ≤ p.block) → wa.cell? p = some v ∧ wb.cell? p = some v ∧ wc.cell? p = some v ∧ wd.cell? p = some v) ∧ Rep own' wd kd blk' (d.put n s) ∧ Fr own own' wr wd := by
  obtain ⟨kn, ks, vc, o1, o2, hkd, ⟨kvn, mn, i1⟩, ⟨kvs, ms, i2⟩, hrc⟩ := h.body
  have lkd := h.lt _ _ h.dk
  have lkn := h.lt _ _ o1
  have lks := h.lt _ _ o2
  have nkn : kd ≠ kn := fun e => by rw [← e, h.dk] at o1; cases o1
  have nks : kd ≠ ks := fun e => by rw [← e, h.dk] at o2; cases o2
  have nns : kn ≠ ks := fun e => by rw [e, o2] at o1; cases o1
  have hbW : Below w3.heap.size w3 W := hW ▸ below_alloc (Below.refl _ _) _
  have hb23 : Below wr.heap.size wr w3 := hb2.trans (hb3.mono hb2.size)
  have hbD : Below W.heap.size W W.drew := below_drewN' W 1
  have hbr : Below wr.heap.size wr W.drew := (hb23.trans (hbW.mono hb23.size)).trans (hbD.mono (hb23.trans (hbW.mono hb23.size)).size)
  have hb3D : Below w3.heap.size w3 W.drew := hbW.trans (hbD.mono hbW.size)
  have hb2D : Below w2.heap.size w2 W.drew := hb3.trans (hb3D.mono hb3.size)
  have hfile : W.drew.heap[w3.heap.size]? = some (.cells #[v2, .slice none 0 0, v3] 77 (0, 0)) := by
    have h9 : W.heap[w3.heap.size]? = some (.cells #[v2, .slice none 0 0, v3] 77 (0, 0)) := by rw [← hW]; exact blk_new w3 _
    exact h9
  have hszW : w3.heap.size < W.drew.heap.size := by
    have : W.heap.size = w3.heap.size + 1 := by rw [← hW]; simp
    have := hbD.size
    omega
  have mn' : SMap W.drew kn kvn := mn.of_block (hbr.block kn lkn)
  have ms' : SMap W.drew ks kvs := ms.of_block (hbr.block ks lks)
  have hz : ∀ w, (zeroValue 72).run Try.prog w = .ok (.pointer none) w := fun w => by kernel_rfl
  have k1 : kget kvn n = none := by rw [i1.2 n, g1]; rfl
  have k2 : kget kvs n = none := by rw [i2.2 n, g2]; rfl
  obtain ⟨st1, wa, e1, ga, hput1⟩ := mn'.entry_new Try.underlying78 Try.underlying9 (hz _) n k1
  obtain ⟨wb, e2, gb, mnb⟩ := hput1 (ptr w3.heap.size)
  have msb : SMap wb ks kvs := ms'.of_block (gb.block ks (Nat.lt_of_lt_of_le lks hbr.size) (fun e => nns (Option.some.inj e).symm))
  obtain ⟨st2, wc, e3, gc, hput2⟩ := msb.entry_new Try.underlying78 Try.underlying9 (hz _) n k2
  obtain ⟨wd, e4, gd, msd⟩ := hput2 (ptr w3.heap.size)
  have hsb : W.drew.heap.size ≤ wb.heap.size := gb.size
  have mnd : SMap wd kn (kput kvn n (ptr w3.heap.size)) := mnb.of_block (gd.block kn (Nat.lt_of_lt_of_le lkn (Nat.le_trans hbr.size hsb)) (fun e => nns (Option.some.inj e)))
  have same : ∀ k, k < W.drew.heap.size → k ≠ kn → k ≠ ks → wd.heap[k]? = W.drew.heap[k]? := fun k hk h1 h2 => (gd.block k (Nat.lt_of_lt_of_le hk hsb) (fun e => h2 (Option.some.inj e))).trans (gb.block k hk (fun e => h1 (Option.some.inj e)))
  have hsd : W.drew.heap.size ≤ wd.heap.size := Nat.le_trans hsb gd.size
  have hwr2 : wr.heap.size ≤ w2.heap.size := Nat.le_trans hb0 hb02
  have hl1 : ∀ k r, own k = some r → k < b0 := fun k r hk => Nat.lt_of_lt_of_le (h.lt k r hk) hb0
  have hl2 : ∀ k r, ext own b0 w2.heap.size (.kept d.files.length) k = some r → k < w2.heap.size := fun k r hk => ext_lt hb02 hk
  have hl3 : ∀ k r, ext (ext own b0 w2.heap.size (.kept d.files.length)) w2.heap.size w3.heap.size (.seen d.files.length) k = some r → k < w3.heap.size := fun k r hk => ext_lt hb3.size hk
  have old : ∀ k r, own k = some r → ext (ext (ext own b0 w2.heap.size (.kept d.files.length)) w2.heap.size w3.heap.size (.seen d.files.length)) w3.heap.size (w3.heap.size + 1) (.file d.files.length) k = some r := fun k r hk => ext_old hl3 (ext_old hl2 (ext_old hl1 hk))
  have rk : Kd.R kB 5 wd 0 (fun k => ext (ext (ext own b0 w2.heap.size (.kept d.files.length)) w2.heap.size w3.heap.size (.seen d.files.length)) w3.heap.size (w3.heap.size + 1) (.file d.files.length) k = some (.kept d.files.length)) v2 (ints s) := by
    have h1 : Kd.R kB 5 wd b0 (fun k => b0 ≤ k ∧ k < w2.heap.size) v2 (ints s) :=
      Kd.R_step (Kd.R_mono (Kd.R_bound r2) (fun k hk => ⟨hk.1, hk.2.2.1⟩)) (fun k hk hlt => (same k (Nat.lt_of_lt_of_le hlt hb2D.size) (fun e => by omega) (fun e => by omega)).trans (hb2D.block k hlt))
    exact Kd.R_lower (Kd.R_mono h1 (fun k hk => ext_old hl3 (ext_old hl2 (ext_role ⟨.inr hk.1, hk.2⟩ hl1)))) (Nat.zero_le _)
  have rs : Kd.R kB 5 wd 0 (fun k => ext (ext (ext own b0 w2.heap.size (.kept d.files.length)) w2.heap.size w3.heap.size (.seen d.files.length)) w3.heap.size (w3.heap.size + 1) (.file d.files.length) k = some (.seen d.files.length)) v3 (ints s) := by
    have h1 : Kd.R kB 5 wd w2.heap.size (fun k => w2.heap.size ≤ k ∧ k < w3.heap.size) v3 (ints s) :=
      Kd.R_step (Kd.R_mono (Kd.R_bound r3) (fun k hk => ⟨hk.1, hk.2.2.1⟩)) (fun k hk hlt => (same k (Nat.lt_of_lt_of_le hlt hb3D.size) (fun e => by omega) (fun e => by omega)).trans (hb3D.block k hlt))
    exact Kd.R_lower (Kd.R_mono h1 (fun k hk => ext_old hl3 (ext_role ⟨.inr hk.1, hk.2⟩ hl2))) (Nat.zero_le _)
  have w3r : wr.heap.size ≤ w3.heap.size := hb23.size
  have hrep : Rep (ext (ext (ext own b0 w2.heap.size (.kept d.files.length)) w2.heap.size w3.heap.size (.seen d.files.length)) w3.heap.size (w3.heap.size + 1) (.file d.files.length)) wd kd (blkx blk d.files.length w3.heap.size) (d.put n s) :=
    Rep.put h hn hs l1 l2 hch n s o1 o2 hkd hrc i1 i2 old (fun k r hk => by have := ext_lt (Nat.le_succ _) hk; omega) (by unfold ext; rw [if_neg (Nat.lt_irrefl _), if_pos (Nat.lt_succ_self _)])
      ((same _ hszW (fun e => by omega) (fun e => by omega)).trans hfile) rk rs mnd msd (fun k hk h1 h2 => (same k (Nat.lt_of_lt_of_le hk hbr.size) h1 h2).trans (hbr.block k hk))
  refine ⟨kn, ks, st1, st2, wa, wb, wc, wd, _, _, ?_, ?_, e1, e2, e3, e4, fun p v hc hp => ?_, hrep, ⟨gd.os.trans (gb.os.trans hbr.os), gd.tape.trans (gb.tape.trans hbr.tape), gd.output.trans (gb.output.trans hbr.output), Nat.le_trans hbr.size hsd, fun k hk hno => ?_, fun k hk hno => ?_⟩⟩
  · have h9 := blk_cell ((hbr.block kd lkd).trans hkd) 2
    simpa using h9
  · have h9 := blk_cell ((hbr.block kd lkd).trans hkd) 3
    simpa using h9
  · have q1 : some p.block ≠ some kn := fun e => by
      have e := Option.some.inj e
      rcases hp with hp | hp
      · exact nkn (hp.symm.trans e)
      · omega
    have q2 : some p.block ≠ some ks := fun e => by
      have e := Option.some.inj e
      rcases hp with hp | hp
      · exact nks (hp.symm.trans e)
      · omega
    have c1 := cell_row gb hc q1
    exact ⟨cell_row ga hc q1, c1, cell_row gc c1 q2, cell_row gd c1 q2⟩
  · exact (same k (Nat.lt_of_lt_of_le hk hbr.size) (fun e => by rw [e, o1] at hno; cases hno) (fun e => by rw [e, o2] at hno; cases hno)).trans (hbr.block k hk)
  · exact ext_new (Nat.lt_of_lt_of_le hk w3r) (ext_new (Nat.lt_of_lt_of_le hk hwr2) (ext_new (Nat.lt_of_lt_of_le hk hb0) hno))
end Go.Proofs.Ytonecajkfbdnmaa.Dk

namespace Go.Proofs.Ytonecajkfbdnmaa.Dk
open Go.Lib Go.RowKit Go.ChangeMaps Go.Proofs.Ytonecajkfbdnmaa.Mp Go.Proofs.YtonecajkfbdnmaaW.PrintWords Go.Proofs.YtonecajkfbdnmaaW.PrintLast Go.Proofs.YtonecajkfbdnmaaW.PrintMore Go.Proofs.Ytonecajkfbdnmaa.PDiskRoom Go.Proofs.Ytonecajkfbdnmaa.Dw
set_option linter.unusedVariables false
set_option linter.unusedSimpArgs false
theorem less_bl (a b : ByteArray) : Op.bytesLess a.toList b.toList = decide (bl a < bl b) := by
  rw [bytesLess_eq, Lib.toList_data, Lib.toList_data]; rfl
/-- What Load looks at, at file i. -/
def StepOk (room : Nat) (I : Img) (i : Nat) (hi : i < I.length) : Prop := fair I[i].1 = true ∧ (∀ j, (h : j + 1 = i) → bl (I[j]'(by omega)).1 < bl I[i].1) ∧ I[i].2.length ≤ room - sumI I i
theorem IOk.take {room : Nat} {I : Img} (h : IOk room I) (k : Nat) : IOk room (I.take k) :=
  ⟨Nat.le_trans (List.length_take_le' _ _) h.few, List.Pairwise.sublist (List.take_sublist _ _) h.srt, fun x hx => h.fa x (List.mem_of_mem_take hx), Nat.le_trans (sumI_le I k) h.sum⟩
theorem sumI_all (I : Img) : sumI I I.length = (I.map (fun x => x.2.length)).sum := by unfold sumI; rw [List.take_length]
theorem IOk.step {room : Nat} {I : Img} {i : Nat} (hi : i < I.length) (hf : I.length ≤ 64) (h : IOk room (I.take i)) (hs : StepOk room I i hi) : IOk room (I.take (i + 1)) := by
  obtain ⟨h1, h2, h3⟩ := hs
  have hsum : sumI I i ≤ room := h.sum
  refine ⟨by rw [List.length_take]; omega, ?_, ?_, ?_⟩
  · rw [List.take_succ_eq_append_getElem hi]
    refine List.pairwise_append.2 ⟨h.srt, List.pairwise_singleton _ _, fun a ha b hb => ?_⟩
    rw [List.mem_singleton.1 hb]
    cases i with
    | zero => simp at ha
    | succ j =>
      have h4 := h2 j rfl
      have h5 : I.take (j + 1) = I.take j ++ [I[j]] := List.take_succ_eq_append_getElem (by omega)
      rw [h5] at ha
      have hsr := h.srt
      rw [h5] at hsr
      rcases List.mem_append.1 ha with ha | ha
      · exact List.lt_trans ((List.pairwise_append.1 hsr).2.2 a ha _ (List.mem_singleton.2 rfl)) h4
      · rw [List.mem_singleton.1 ha]; exact h4
  · intro x hx
    rw [List.take_succ_eq_append_getElem hi] at hx
    rcases List.mem_append.1 hx with hx | hx
    · exact h.fa x hx
    · rw [List.mem_singleton.1 hx]; exact h1
  · have h6 := sumI_succ I i hi
    show sumI I (i + 1) ≤ room
    omega
theorem IOk.at {room : Nat} {I : Img} {i : Nat} (hi : i < I.length) (h : IOk room I) : StepOk room I i hi := by
  refine ⟨h.fa _ (List.getElem_mem hi), fun j hj => ?_, ?_⟩
  · exact List.pairwise_iff_getElem.1 h.srt j i (by omega) hi (by omega)
  · have h1 := sumI_succ I i hi
    have h2 := sumI_le I (i + 1)
    have h3 := h.sum
    omega
theorem aget_ne (k : ByteArray) : ∀ m : AM, (∀ x ∈ m, x.1 ≠ k) → aget m k = none
  | [], _ => rfl
  | (a, f) :: r, h => by
    show (if a = k then some f else aget r k) = none
    rw [if_neg (h (a, f) (List.mem_cons_self ..)), aget_ne k r (fun x hx => h x (List.mem_cons_of_mem _ hx))]
/-- What Load answers. -/
def LoadEnds (w : World) (room : Nat) (I : Img) (e : Ending) (w' : World) : Prop :=
  (IOk room I → Made2 w (loadDk room I) e w') ∧ (¬ IOk room I → e = .returned (.tuple #[.pointer none, .int .i64 116]) ∧ Below w.heap.size w w')
set_option maxRecDepth 100000 in
set_option maxHeartbeats 8000000 in
theorem load_walk (room : Nat) (hroom : room ≤ 67108864) (I : Img) (A : Option Addr) (c : Nat) (w : World) (hC : Kd.C k28 w A I.length (I.map encF)) (hl : I.length ≤ 1000000000000000) (hn : ∀ x ∈ I, x.1.size ≤ big) (hd : ∀ x ∈ I, x.2.length ≤ 1000000000000000) :
    Calls Try.prog 11 #[.slice A I.length c, .int .i64 (room : Int)] w (LoadEnds w room I) := by
  have HNW := Lib.hid (new_walk room hroom w)
  have HC := Lib.hid hC
  have HN := Lib.hid hn
  have HD := Lib.hid hd
  clear hC hn hd
  go_enter Try.func11, Try.ntmps11
  go_upto_region 2 with (first | (go_at_call 23; refine HNW.out.mono ?_; rintro e w1 ⟨kd, own0, blk0, rfl, hr1, hb1, hn1⟩; have HR1 := Lib.hid hr1; have HB1 := Lib.hid hb1; have HN1 := Lib.hid hn1; clear hr1 hb1 hn1))
  unfold ptr
  by_cases h64 : I.length ≤ 64
  · have q64 : ¬ (I.length : Int) > 64 := by omega
    go_upto_region 7 with (fail)
    clear q64
    go_wp2_with fail
    have how0 : ∀ k, k < w.heap.size → own0 k = none := fun k hk => by
      cases e : own0 k with
      | none => rfl
      | some r => have := HN1.out k r e; omega
    have HOW0 := Lib.hid how0
    have HWB := Lib.hid (fun (own : Own) (W : World) (hf : Fr own0 own w1 W) => HB1.out.trans (hf.below HB1.out.size how0))
    have hI0 : IOk room (I.take 0) := ⟨Nat.zero_le _, List.Pairwise.nil, fun x hx => by simp at hx, Nat.zero_le _⟩
    have HI0 := Lib.hid hI0
    clear how0 hI0
    go_loopw [8, 26] (fun v8 v26 wr => ∃ (i : Nat) (own : Own) (blk : Nat → Nat), i ≤ I.length ∧ v26 = .int .i64 i ∧ v8 = .int .i64 ((room - sumI I i : Nat) : Int) ∧ IOk room (I.take i) ∧ Rep own wr kd blk (loadDk room (I.take i)) ∧ Fr own0 own w1 wr) (fun _ v26 _ => I.length - (RowKit.intOf v26).toNat)
    case atStart => exact ⟨0, own0, blk0, Nat.zero_le _, rfl, by rw [show sumI I 0 = 0 from rfl]; rfl, HI0.out, HR1.out, Fr.refl _ _⟩
    case round =>
      obtain ⟨i, own, blk, hi, rfl, rfl, hok, hr, hf⟩ := hrel
      have HOK := Lib.hid hok
      have HR := Lib.hid hr
      have HF := Lib.hid hf
      have hsr : sumI I i ≤ room := hok.sum
      obtain ⟨L, hL⟩ : ∃ L, room - sumI I i = L := ⟨_, rfl⟩
      have hLr : L ≤ room := by omega
      rw [hL]
      have HL := Lib.hid hL
      clear hok hr hf hsr hL
      by_cases hlt : i < I.length
      · have qi0 : (0 : Int) ≤ (i : Int) := by omega
        have qi1 : (i : Int) < (I.length : Int) := by omega
        obtain ⟨ad, A1', c1', hA, g0, g1, g2, g3⟩ := img_at (Kd.C_below HC.out (HWB.out own wr HF.out)) i hlt
        have HG3 := Lib.hid g3
        have HG2 := Lib.hid g2
        subst hA
        clear g3 g2
        go_upto_region 10 with (fail)
        obtain ⟨bad, hbad⟩ : ∃ bad : Bool, bad = true ↔ ¬ StepOk room I i hlt := by
          by_cases h : StepOk room I i hlt
          · exact ⟨false, by simp [h]⟩
          · exact ⟨true, by simp [h]⟩
        have hstep : StepOk room I i hlt ↔ (fair I[i].1 = true ∧ (∀ j, (h : j + 1 = i) → bl (I[j]'(by omega)).1 < bl I[i].1) ∧ I[i].2.length ≤ L) := by unfold StepOk; rw [HL.out]
        obtain ⟨prev, hprev⟩ : ∃ prev : ByteArray, ∀ j, (h : j + 1 = i) → (I[j]'(by omega)).1 = prev := by
          cases i with
          | zero => exact ⟨⟨#[]⟩, fun j h => by omega⟩
          | succ j => exact ⟨(I[j]'(by omega)).1, fun k h => by
              have e : k = j := by omega
              subst e
              rfl⟩
        have hpc : ∀ j, j + 1 = i → wr.cell? (ad.add (j * 2)) = some (.string prev) := fun j hj => by
          obtain ⟨ad2, _, _, hA2, h0, _⟩ := img_at (Kd.C_below HC.out (HWB.out own wr HF.out)) j (by omega)
          obtain rfl := Option.some.inj hA2
          rw [hprev j hj] at h0; exact h0
        have hstep2 : StepOk room I i hlt ↔ (fair I[i].1 = true ∧ (0 < i → bl prev < bl I[i].1) ∧ I[i].2.length ≤ L) := by
          rw [hstep]
          constructor
          · rintro ⟨h1, h2, h3⟩
            refine ⟨h1, fun h => ?_, h3⟩
            have h4 := h2 (i - 1) (by omega)
            rw [hprev (i - 1) (by omega)] at h4; exact h4
          · rintro ⟨h1, h2, h3⟩
            refine ⟨h1, fun j hj => ?_, h3⟩
            rw [hprev j hj]; exact h2 (by omega)
        rw [hstep2] at hbad
        have hnm := HN.out I[i] (List.getElem_mem hlt)
        have hdl := HD.out I[i] (List.getElem_mem hlt)
        have HSTEP := Lib.hid hstep2
        obtain ⟨x, hx⟩ : ∃ x, I[i] = x := ⟨_, rfl⟩
        have HX := Lib.hid hx
        rw [hx] at hbad hnm hdl g0 g1 HG2 HG3 ⊢
        obtain ⟨nm, data⟩ := x
        clear hstep hstep2 hx hprev
        simp only at hbad hnm hdl g0 g1 HG2 HG3 ⊢
        obtain ⟨wx, hwx⟩ : ∃ wx, wr.alloc (.cells #[.string nm, .slice A1' data.length c1'] 28) = wx := ⟨_, rfl⟩
        obtain ⟨kx, hkx⟩ : ∃ kx, wr.heap.size = kx := ⟨_, rfl⟩
        have hbx : Below wr.heap.size wr wx := hwx ▸ below_alloc (Below.refl _ _) _
        have hnx : wx.heap[kx]? = some (.cells #[.string nm, .slice A1' data.length c1'] 28 (0, 0)) := by rw [← hwx, ← hkx]; exact blk_new wr _
        have hpx : ∀ j, j + 1 = i → wx.cell? (ad.add (j * 2)) = some (.string prev) := fun j hj => pw_cell_below hbx (hpc j hj)
        rw [hwx, hkx]
        have HBX := Lib.hid hbx
        have HNX := Lib.hid hnx
        have HKX := Lib.hid hkx
        have HPX := Lib.hid hpx
        have HBAD := Lib.hid hbad
        have HFW := Lib.hid (fun W => (show Calls Try.prog 37 #[.string nm] W (fun e w' => e = .returned (.bool (fair nm)) ∧ Below W.heap.size W w') from (fair_walk nm W hnm).mono (fun e w' ⟨h1, m, h2⟩ => ⟨h1, h2 ▸ below_drewN' _ m⟩)))
        have n0 := blk_cell hnx 0
        have n1 := blk_cell hnx 1
        simp at n0 n1
        have r0 : ∀ q : Cls wx, q.at.cell? ⟨kx, 0, none⟩ = some (.string nm) := fun q => q.cell n0
        have r1 : ∀ q : Cls wx, q.at.cell? ⟨kx, 1, none⟩ = some (.slice A1' data.length c1') := fun q => q.cell n1
        have R0 := Lib.hid r0
        have R1 := Lib.hid r1
        clear hwx hbx hnx hpx hpc hbad hkx n0 n1 g0 g1 r0 r1
        go_cut [56] from 31 to 56 (fun v56 wz => v56 = .bool bad ∧ Below wx.heap.size wx wz)
        case first =>
          have hi64 : i < 64 := by omega
          clear hi qi0 hl h64
          have good : ∀ (h1 : fair nm = true) (h2 : 0 < i → bl prev < bl nm) (h3 : data.length ≤ L), bad = false := fun h1 h2 h3 => by
            cases hb : bad with
            | false => rfl
            | true => exact absurd ⟨h1, h2, h3⟩ (HBAD.out.1 hb)
          have GOOD := Lib.hid good
          clear good
          have r0 := R0.out
          have r1 := R1.out
          by_cases hf : fair nm = true
          · rw [hf] at HFW
            by_cases hi0 : i = 0
            · subst hi0
              by_cases hL : data.length ≤ L
              · have q1 : ¬ L < data.length := by omega
                have HBF := Lib.hid (GOOD.out hf (fun h => by omega) hL)
                clear hf hL hnm hdl hLr hroom
                refine wp_region_cls (by kernel_rfl) (by kernel_rfl) ?_
                repeat (go_big_quiet_step ((refine cls_call (HFW.out _))))
                refine wpQuiet_nil ?_
                rintro wy ⟨q, rfl⟩
                go_wp2_with fail
                go_meet
                case rel => exact ⟨by rw [HBF.out], q.below⟩
              · have q1 : L < data.length := by omega
                have HBF := Lib.hid (HBAD.out.2 (fun h => hL h.2.2))
                clear hf hL hnm hdl hLr hroom
                refine wp_region_cls (by kernel_rfl) (by kernel_rfl) ?_
                repeat (go_big_quiet_step ((refine cls_call (HFW.out _))))
                refine wpQuiet_nil ?_
                rintro wy ⟨q, rfl⟩
                go_wp2_with fail
                go_meet
                case rel => exact ⟨by rw [HBF.out], q.below⟩
            · obtain ⟨j, rfl⟩ : ∃ j, i = j + 1 := ⟨i - 1, by omega⟩
              have hip : 0 < j + 1 := by omega
              have rp : ∀ q : Cls wx, q.at.cell? (ad.add (j * 2)) = some (.string prev) := fun q => q.cell (HPX.out j rfl)
              have qj0 : (0 : Int) ≤ (j : Int) := by omega
              have qj1 : (j : Int) < (I.length : Int) := by omega
              have hw1 : IntKind.i64.wrap ((j : Int) + 1 - 1) = (j : Int) := by rw [IntWalk.i64_in _ (by omega)]; omega
              have hw2 : IntKind.i64.wrap (j : Int) = (j : Int) := IntWalk.i64_in _ (by omega)
              clear hi64
              by_cases hc : bl prev < bl nm
              · have hcm : Op.bytesLess prev.toList nm.toList = true := by rw [less_bl]; simpa using hc
                by_cases hL : data.length ≤ L
                · have q1 : ¬ L < data.length := by omega
                  have HBF := Lib.hid (GOOD.out hf (fun _ => hc) hL)
                  clear hf hi0 hL hnm hdl hLr hroom hc hip
                  refine wp_region_cls (by kernel_rfl) (by kernel_rfl) ?_
                  repeat (go_big_quiet_step ((refine cls_call (HFW.out _))))
                  refine wpQuiet_nil ?_
                  rintro wy ⟨q, rfl⟩
                  go_wp2_with fail
                  go_meet
                  case rel => exact ⟨by rw [HBF.out], q.below⟩
                · have q1 : L < data.length := by omega
                  have HBF := Lib.hid (HBAD.out.2 (fun h => hL h.2.2))
                  clear hf hi0 hL hnm hdl hLr hroom hc hip
                  refine wp_region_cls (by kernel_rfl) (by kernel_rfl) ?_
                  repeat (go_big_quiet_step ((refine cls_call (HFW.out _))))
                  refine wpQuiet_nil ?_
                  rintro wy ⟨q, rfl⟩
                  go_wp2_with fail
                  go_meet
                  case rel => exact ⟨by rw [HBF.out], q.below⟩
              · have hcm : Op.bytesLess prev.toList nm.toList = false := by rw [less_bl]; simpa using hc
                have HBF := Lib.hid (HBAD.out.2 (fun h => hc (h.2.1 hip)))
                clear hf hi0 hnm hdl hLr hroom hc hip
                refine wp_region_cls (by kernel_rfl) (by kernel_rfl) ?_
                repeat (go_big_quiet_step ((refine cls_call (HFW.out _))))
                refine wpQuiet_nil ?_
                rintro wy ⟨q, rfl⟩
                go_wp2_with fail
                go_meet
                case rel => exact ⟨by rw [HBF.out], q.below⟩
          · have hf2 : fair nm = false := by simpa using hf
            have HBF := Lib.hid (HBAD.out.2 (fun h => hf h.1))
            rw [hf2] at HFW
            clear hf hf2 hnm hdl hLr hroom
            refine wp_region_cls (by kernel_rfl) (by kernel_rfl) ?_
            repeat (go_big_quiet_step ((refine cls_call (HFW.out _))))
            refine wpQuiet_nil ?_
            rintro wy ⟨q, rfl⟩
            go_wp2_with fail
            go_meet
            case rel => exact ⟨by rw [HBF.out], q.below⟩
        case rest =>
          obtain ⟨rfl, hbz⟩ := hcut
          obtain ⟨wz, hwz⟩ : ∃ wz, wc = wz := ⟨_, rfl⟩
          rw [hwz] at hbz ⊢
          have HBZ := Lib.hid (HBX.out.trans (hbz.mono HBX.out.size))
          have HNZ := Lib.hid (blk_below HNX.out hbz)
          clear hwz hbz HFW
          cases bad with
          | true =>
            have hnot : ¬ IOk room I := fun h => by
              have h1 := HSTEP.out.1 (h.at hlt)
              rw [HX.out] at h1
              exact HBAD.out.1 rfl h1
            have HNOT := Lib.hid hnot
            clear hnot
            go_wp2_with fail
            go_ret2
            exact ⟨fun h => absurd h HNOT.out, fun _ => ⟨rfl, (HWB.out own wr HF.out).trans (HBZ.out.mono (HWB.out own wr HF.out).size)⟩⟩
          | false =>
            have hgood : fair nm = true ∧ (0 < i → bl prev < bl nm) ∧ data.length ≤ L := by
              by_cases h : fair nm = true ∧ (0 < i → bl prev < bl nm) ∧ data.length ≤ L
              · exact h
              · have h2 := HBAD.out.2 h; cases h2
            have hstep : StepOk room I i hlt := HSTEP.out.2 (by rw [HX.out]; exact hgood)
            have hok2 := HOK.out.step hlt h64 hstep
            have hdL := hgood.2.2
            obtain ⟨L2, hL2⟩ : ∃ L2, L - data.length = L2 := ⟨_, rfl⟩
            have hL3 : (L : Int) - (data.length : Int) = (L2 : Int) := by omega
            have hL4 : room - sumI I (i + 1) = L2 := by
              have h1 := sumI_succ I i hlt
              rw [HX.out] at h1
              have h2 := HL.out
              have h3 : sumI I (i + 1) = sumI I i + data.length := h1
              omega
            have HL4 := Lib.hid hL4
            have HOK2 := Lib.hid hok2
            have n1 := blk_cell HNZ.out 1
            simp at n1
            clear hgood hstep hok2 hL4 hnm
            go_upto_region 13 with (fail)
            have hil : (ints data).length = data.length := ints_length data
            have HCL := Lib.hid (fun W (hs : W.cell? ⟨kx, 1, none⟩ = some (.slice A1' data.length c1') ∧ Below wz.heap.size wz W) => show Calls Try.prog 38 #[.slice A1' data.length c1'] W (fun e w' => ∃ v, e = .returned v ∧ Kd.R kB 5 w' W.heap.size (fun k => W.heap.size ≤ k) v (ints data) ∧ Below W.heap.size W w') from by
              have h9 := clone_walk (ints data) A1' c1' W (Kd.C_below HG3.out ((HBZ.out.trans (hs.2.mono HBZ.out.size)))) (by rw [hil]; omega)
              rw [hil] at h9
              exact h9)
            have HKZ := Lib.hid (fun W W' (hs : W.cell? ⟨kx, 1, none⟩ = some (.slice A1' data.length c1') ∧ Below wz.heap.size wz W) (hb : Below W.heap.size W W') => (⟨pw_cell_below hb hs.1, hs.2.trans (hb.mono hs.2.size)⟩ : W'.cell? ⟨kx, 1, none⟩ = some (.slice A1' data.length c1') ∧ Below wz.heap.size wz W'))
            have HSZ := Lib.hid (⟨pw_cell_below (below_drewN' wz 1) n1, below_drewN' wz 1⟩ : wz.drew.cell? ⟨kx, 1, none⟩ = some (.slice A1' data.length c1') ∧ Below wz.heap.size wz wz.drew)
            clear hil n1 hdl hdL hL3 hLr hL2
            go_region_held3 (fun w' => w'.cell? ⟨kx, 1, none⟩ = some (.slice A1' data.length c1') ∧ Below wz.heap.size wz w')
              (first | assumption | exact HSZ.out | exact HKZ.out _ _ (by assumption) (by assumption) | exact HKZ.out _ _ (by assumption) (below_alloc (Below.refl _ _) _))
              (first | (have hmark := HRow1; go_at_call 38; refine (HCL.out _ (by assumption)).mono ?_; rintro e w3 ⟨v3, rfl, hr3, hb3⟩; obtain ⟨A3, c3, rfl⟩ := Kd.R_slice hr3; have HRow2 := Lib.hid hr3; have HB3 := Lib.hid hb3) | (go_at_call 38; refine (HCL.out _ (by assumption)).mono ?_; rintro e w2 ⟨v2, rfl, hr2, hb2⟩; obtain ⟨A2, c2, rfl⟩ := Kd.R_slice hr2; have HRow1 := Lib.hid hr2; have HB2 := Lib.hid hb2))
            have hlen : (I.take i).length = i := by rw [List.length_take]; omega
            have hname : ∀ x ∈ tab (I.take i) 0, x.1 ≠ nm := fun x hx => by
              obtain ⟨⟨y, hy, e⟩, _⟩ := tab_mem _ 0 x hx
              have h1 := HOK2.out.srt
              rw [List.take_succ_eq_append_getElem hlt, HX.out] at h1
              have h2 : bl y.1 < bl nm := (List.pairwise_append.1 h1).2.2 y hy _ (List.mem_singleton.2 rfl)
              rw [← e]; exact lt_ne h2
            have hput : (loadDk room (I.take i)).put nm data = loadDk room (I.take (i + 1)) := by
              have h1 := HOK2.out.srt
              rw [List.take_succ_eq_append_getElem hlt, HX.out] at h1 ⊢
              exact loadDk_put room (I.take i) (nm, data) h1
            have htl : ∀ x ∈ tab (I.take i) 0, x.2 < (loadDk room (I.take i)).files.length := fun x hx => by
              have h1 := (tab_mem _ 0 x hx).2.2
              show x.2 < ((I.take i).map _).length
              rw [List.length_map]; omega
            obtain ⟨W, hW⟩ : ∃ W, w3.alloc (.cells #[.slice A2 (ints data).length c2, .slice none 0 0, .slice A3 (ints data).length c3] 77) = W := ⟨_, rfl⟩
            have hz2 : Below wr.heap.size wr wz.drew := HBZ.out.trans ((below_drewN' wz 1).mono HBZ.out.size)
            obtain ⟨kn, ks, st1, st2, wa, wb, wc, wd, own2, blk2, d2, d3, e1, e2, e3, e4, hkeep, hrep, hfr⟩ := load_entry HR.out (tab_srt _ 0 HOK.out.srt) (tab_srt _ 0 HOK.out.srt) htl htl rfl (aget_ne nm _ hname) (aget_ne nm _ hname) hz2.size hb2.size (hz2.trans (hb2.mono hz2.size)) hr2 hb3 hr3 hW
            rw [hput] at hrep
            have x0 : W.drew.cell? ⟨kx, 0, none⟩ = some (.string nm) := by
              have h1 := blk_cell HNZ.out 0
              simp at h1
              have h2 : Below wz.heap.size wz W.drew := (((below_drewN' wz 1).trans (hb2.mono (below_drewN' wz 1).size)).trans (hb3.mono ((below_drewN' wz 1).trans (hb2.mono (below_drewN' wz 1).size)).size)).trans ((show Below w3.heap.size w3 W.drew from (show Below w3.heap.size w3 W from hW ▸ below_alloc (Below.refl _ _) _).trans ((below_drewN' W 1).mono (show Below w3.heap.size w3 W from hW ▸ below_alloc (Below.refl _ _) _).size)).mono ((((below_drewN' wz 1).trans (hb2.mono (below_drewN' wz 1).size)).trans (hb3.mono ((below_drewN' wz 1).trans (hb2.mono (below_drewN' wz 1).size)).size))).size)
              exact pw_cell_below h2 h1
            obtain ⟨a2, b2, c2', d2'⟩ := hkeep _ _ d2 (.inl rfl)
            obtain ⟨a3, b3, c3', d3'⟩ := hkeep _ _ d3 (.inl rfl)
            obtain ⟨a0, b0, c0, d0⟩ := hkeep _ _ x0 (.inr (Nat.le_of_eq HKX.out))
            obtain ⟨kb, hkb⟩ : ∃ kb, w3.heap.size = kb := ⟨_, rfl⟩
            have HREP := Lib.hid hrep
            have HFR2 := Lib.hid hfr
            rw [hW, hkb]
            rw [hkb] at e2 e4
            unfold ptr at e2 e4
            clear hlen hname hput htl hz2 hkeep hrep hfr hr2 hr3 hb2 hb3 HRow1 HRow2 hmark HB2 HB3 hW hkb
            go_upto_region 14 with (fail)
            go_region_held3 (fun w' => w'.cell? ⟨kd, 2, none⟩ = some (.map (some kn)) ∧ w'.cell? ⟨kd, 3, none⟩ = some (.map (some ks)) ∧ w'.cell? ⟨kx, 0, none⟩ = some (.string nm))
              (first | assumption | exact ⟨d2, d3, x0⟩ | exact ⟨a2, a3, a0⟩ | exact ⟨b2, b3, b0⟩ | exact ⟨c2', c3', c0⟩ | exact ⟨d2', d3', d0⟩) (fail)
            clear e1 e2 e3 e4 d2 d3 x0 a2 a3 a0 b2 b3 b0 c2' c3' c0 d2' d3' d0
            go_wp2_with fail
            go_roundw
            case rel => exact ⟨i + 1, own2, blk2, by omega, by go_num, by rw [HL4.out], HOK2.out, HREP.out, HF.out.trans HFR2.out⟩
            case measure => simp [RowKit.intOf]; omega
      · have qi1 : ¬ (i : Int) < (I.length : Int) := by omega
        have hiI : i = I.length := by omega
        subst hiI
        go_wp2_with fail
        go_ret2
        have hok := HOK.out
        have hrr := HR.out
        rw [List.take_length] at hok hrr
        exact ⟨fun _ => ⟨kd, own, blk, rfl, hrr, HWB.out own _ HF.out, fun k r hk => by
          rcases Nat.lt_or_ge k w.heap.size with h1 | h1
          · have h2 := HF.out.new k (Nat.lt_of_lt_of_le h1 HB1.out.size) (HOW0.out k h1)
            rw [h2] at hk; cases hk
          · exact h1⟩, fun h => absurd hok h⟩
  · have q64 : (I.length : Int) > 64 := by omega
    go_wp2_with fail
    go_ret2
    exact ⟨fun h => absurd h.few h64, fun _ => ⟨rfl, HB1.out⟩⟩
end Go.Proofs.Ytonecajkfbdnmaa.Dk

namespace Go.Proofs.Ytonecajkfbdnmaa.Dk
open Go.Lib Go.RowKit Go.ChangeMaps Go.Proofs.Ytonecajkfbdnmaa.Mp Go.Proofs.YtonecajkfbdnmaaW.PrintWords Go.Proofs.YtonecajkfbdnmaaW.PrintLast Go.Proofs.YtonecajkfbdnmaaW.PrintMore Go.Proofs.Ytonecajkfbdnmaa.PDiskRoom Go.Proofs.Ytonecajkfbdnmaa.Dw
set_option linter.unusedVariables false
set_option linter.unusedSimpArgs false
set_option maxRecDepth 100000 in
set_option maxHeartbeats 4000000 in
theorem copied_walk (I : Img) (A : Option Addr) (c : Nat) (w : World) (hC : Kd.C k28 w A I.length (I.map encF)) (hl : I.length ≤ 1000000000) (hM : ∀ x ∈ I, x.2.length ≤ 1000000000) :
    Calls Try.prog 35 #[.slice A I.length c] w fun e w' => ∃ v, e = .returned v ∧ Kd.R k28 28 w' w.heap.size (fun k => w.heap.size ≤ k) v (I.map encF) ∧ Below w.heap.size w w' := by
  have HC := Lib.hid hC
  have HM := Lib.hid hM
  obtain ⟨N, hN⟩ : ∃ N, I.length = N := ⟨_, rfl⟩
  have HN := Lib.hid hN
  rw [hN] at hl ⊢
  clear hC hM hN
  go_enter Try.func35, Try.ntmps35
  go_wp2_with fail
  go_loopw [3, 4] (fun v3 v4 wr => ∃ (i : Nat) (B : Option Addr) (b : Nat), i ≤ N ∧ v4 = .int .i64 i ∧ v3 = .slice B i b ∧ Kd.R k28 28 wr w.heap.size (fun k => w.heap.size ≤ k) (.slice B i b) ((I.map encF).take i) ∧ Below w.heap.size w wr) (fun _ v4 _ => N - (RowKit.intOf v4).toNat)
  case atStart => exact ⟨0, none, 0, Nat.zero_le _, rfl, rfl, Kd.R_nil _ _ _ _ _, Below.refl _ _⟩
  case round =>
    obtain ⟨i, B, b, hi, rfl, rfl, hR, hb⟩ := hrel
    have HR := Lib.hid hR
    have HB := Lib.hid hb
    clear hR hb
    by_cases hlt : i < N
    · have hlt' : i < I.length := by rw [HN.out]; exact hlt
      obtain ⟨ad, A1', c1', hA, g0, g1, g2, g3⟩ := img_at HC.out i hlt'
      subst hA
      have hil := ints_length I[i].2
      have hsz := HM.out I[i] (List.getElem_mem hlt')
      have htk : ((I.map encF).take i).length = i := by rw [List.length_take, List.length_map, HN.out]; omega
      have htk2 : (I.map encF).take (i + 1) = (I.map encF).take i ++ [encF I[i]] := by
        rw [List.take_add_one, List.getElem?_map, List.getElem?_eq_getElem hlt']; rfl
      have HTK := Lib.hid htk
      have HTK2 := Lib.hid htk2
      obtain ⟨x, hx⟩ : ∃ x, I[i] = x := ⟨_, rfl⟩
      rw [hx] at g0 g1 g2 g3 HTK2 hil hsz
      obtain ⟨nm, sb⟩ := x
      simp only at g0 g1 g2 g3 hil hsz
      have HS := Lib.hid (fun W (hb : Below w.heap.size w W) => (⟨pw_cell_below hb g0, pw_cell_below hb g1⟩ : W.cell? (ad.add (i * 2)) = some (.string nm) ∧ W.cell? ⟨(ad.add (i * 2)).block, (ad.add (i * 2)).off + 1, none⟩ = some (.slice A1' sb.length c1')))
      have hbd : Below w.heap.size w wr.drew := HB.out.trans ((below_drewN' wr 1).mono HB.out.size)
      have HBD := Lib.hid hbd
      have HCP := Lib.hid (copy_walk sb A1' c1' wr.drew (by rw [hil]; rw [hil] at g3; exact Kd.C_below g3 hbd) hsz)
      have qi0 : (0 : Int) ≤ (i : Int) := by omega
      have qi1 : (i : Int) < (N : Int) := by omega
      have hi1 : (i + 1) * 40 ≤ 140737488355328 := by omega
      have HI1 := Lib.hid hi1
      clear g0 g1 g2 g3 hil hsz htk htk2 hx hbd hlt' hi1
      go_upto_region 5 with (fail)
      go_region_held3 (fun w' => w'.cell? (ad.add (i * 2)) = some (.string nm) ∧ w'.cell? ⟨(ad.add (i * 2)).block, (ad.add (i * 2)).off + 1, none⟩ = some (.slice A1' sb.length c1'))
        (first | assumption | exact HS.out _ HBD.out | exact HS.out _ (by assumption) | exact HS.out _ (below_alloc (by assumption) _))
        (first | (go_at_call 28; refine HCP.out.mono ?_; rintro e w5 ⟨v7, rfl, hr7, hb7⟩; obtain ⟨A7, c7, rfl⟩ := Kd.R_slice hr7; have HR7 := Lib.hid hr7; have HB7 := Lib.hid hb7; have hq5 : Below w.heap.size w w5 := HBD.out.trans (hb7.mono HBD.out.size)) |
          (refine Kd.R_append_step k28 (w0 := w) (W := w5) w.heap.size (by rfl) (.tmp 11) (.tmp 24) 22 28 (.agg #[.string ⟨#[]⟩, .slice none 0 0]) 40 (by rfl) Try.underlying22 info28 rfl (by decide) (by decide) (.slice B i b) ((I.map encF).take i) ⟨nm, ints sb⟩ [.string nm, .slice A7 (ints sb).length c7] (fun k => w.heap.size ≤ k) (fun k => wr.drew.heap.size ≤ k) (by rfl) (by rfl) (k28_mkM w5 _ _ ⟨nm, ints sb⟩ (Kd.R_lower HR7.out HBD.out.size)) (fun k hk => ⟨Nat.le_trans HBD.out.size hk, fun e => by have h9 := (R_own_lt HR.out k e.symm).2.2; have h8 : wr.heap.size ≤ wr.drew.heap.size := (below_drewN' wr 1).size; have h7 : wr.drew.heap.size ≤ k := hk; omega⟩) (fun k hk => Nat.le_trans HBD.out.size (Nat.le_trans HB7.out.size hk)) (Kd.R_below (Kd.R_below HR.out (below_drewN' wr 1)) HB7.out) hq5 (Nat.le_trans HBD.out.size HB7.out.size) (by rw [HTK.out]; exact HI1.out) ?_; intro v9 w9 hr9 hb9 hg9 hat9; obtain ⟨A9, c9, rfl⟩ := Kd.R_slice hr9; have HR9 := Lib.hid hr9; have HB9 := Lib.hid hb9))
      go_wp2_with fail
      go_roundw
      case rel =>
        refine ⟨i + 1, A9, c9, by omega, by go_num, by rw [HN.out, Nat.min_eq_left hi], ?_, HB9.out⟩
        rw [HTK2.out]
        have h9 := HR9.out
        rw [List.length_append, List.length_singleton, HTK.out] at h9
        exact h9
      case measure => simp [RowKit.intOf]; omega
    · have hib : i = N := by omega
      have HIB := Lib.hid hib
      go_wp2_with fail
      go_ret
      have h9 := HR.out
      have e9 : (I.map encF).take i = I.map encF := by
        rw [HIB.out, ← HN.out, ← List.length_map (f := encF), List.take_length]
      rw [e9] at h9
      exact ⟨_, rfl, h9, HB.out⟩
end Go.Proofs.Ytonecajkfbdnmaa.Dk
