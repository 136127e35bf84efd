/- The walks of fair and of find. -/
import Derived.Test.YtonecajkfbdnmaaEa
import Derived.Test.YtonecajkfbdnmaaPDiskRoomx16
import Derived.Maps.RangeRun
import Derived.Maps.RangeWalk
import Derived.Deep.LoopGhost
import Derived.Maps.AppendAt
import Derived.Maps.OwnSet
namespace Go.Proofs.Ytonecajkfbdnmaa.Dk
open Go.Lib Go.RowKit Go.Proofs.Ytonecajkfbdnmaa.Mp Go.Proofs.YtonecajkfbdnmaaW.PrintWords Go.Proofs.YtonecajkfbdnmaaW.PrintLast Go.Proofs.YtonecajkfbdnmaaW.PrintMore Go.Proofs.Ytonecajkfbdnmaa.PDiskRoom
set_option linter.unusedVariables false
set_option linter.unusedSimpArgs false

def big : Nat := 2305843009213693952
theorem bt_get (s : ByteArray) (i : Nat) : bt s (i : Int) = ((s.get! i).toNat : Int) := by
  unfold bt
  rw [Int.toNat_natCast]
  split
  · rename_i h
    have e : s[i] = s.get! i := by
      show s.data[i] = s.data[i]!
      rw [getElem!_pos s.data i h]
    rw [e]
  · rename_i h
    have : s.get! i = default := getElem!_neg s.data i (by simpa using h)
    rw [this]; rfl
theorem bl_length (s : ByteArray) : (bl s).length = s.size := by simp [bl]
theorem bl_drop (s : ByteArray) (i : Nat) (hi : i < s.size) : (bl s).drop i = (s.get! i) :: (bl s).drop (i + 1) := by
  have h : i < (bl s).length := by rw [bl_length]; exact hi
  rw [List.drop_eq_getElem_cons h]
  congr 1
  have h' : i < s.data.size := hi
  show s.data.toList[i]'(by simpa using h') = s.data[i]!
  rw [getElem!_pos s.data i h']
  rfl
set_option maxHeartbeats 2000000 in
theorem fair_loop (s : ByteArray) (hs : s.size ≤ big) : ∀ (d i k : Nat), i ≤ s.size → s.size - i ≤ d → d + 1 ≤ k →
    disk_fair.l0 k s (s.size : Int) (i : Int) = some (((bl s).drop i).all fairC && (decide (1 ≤ s.size) && decide (s.size ≤ 64)))
  | d, i, 0, _, _, hk => by omega
  | d, i, k + 1, hi, hd, hk => by
    by_cases h : i < s.size
    · have ih := fair_loop s hs (d - 1) (i + 1) k (by omega) (by omega) (by omega)
      have hw : wrap64 ((i : Int) + 1) = ((i + 1 : Nat) : Int) := by unfold big at hs; unfold wrap64; omega
      unfold disk_fair.l0
      rw [if_pos (by omega), if_pos (by omega), if_pos (by omega), bt_get, hw, ih, bl_drop s i h, List.all_cons]
      obtain ⟨c, hc⟩ : ∃ c, s.get! i = c := ⟨_, rfl⟩
      obtain ⟨r, hr⟩ : ∃ r, ((bl s).drop (i + 1)).all fairC = r := ⟨_, rfl⟩
      rw [hc, hr]
      have h46 : (c == 46) = decide (c.toNat = 46) := by rw [Bool.eq_iff_iff]; simp [← UInt8.toNat_inj]
      have h45 : (c == 45) = decide (c.toNat = 45) := by rw [Bool.eq_iff_iff]; simp [← UInt8.toNat_inj]
      have h95 : (c == 95) = decide (c.toNat = 95) := by rw [Bool.eq_iff_iff]; simp [← UInt8.toNat_inj]
      unfold fairC
      rw [h46, h45, h95]
      obtain ⟨n, hn⟩ : ∃ n, c.toNat = n := ⟨_, rfl⟩
      rw [hn]
      clear h46 h45 h95 ih
      repeat' split
      all_goals (congr 1; rw [Bool.eq_iff_iff]; simp; try omega)
    · unfold disk_fair.l0
      rw [if_neg (by omega), List.drop_eq_nil_of_le (by rw [bl_length]; omega)]
      repeat' split
      all_goals (congr 1; rw [Bool.eq_iff_iff]; simp; try omega)
theorem fair_walk (n : ByteArray) (w : World) (hn : n.size ≤ big) : Calls Try.prog 37 #[.string n] w fun e w' => e = .returned (.bool (fair n)) ∧ ∃ m, w' = w.drewN m :=
  (disk_fair.calls (n.size + 1) n (fair n) w (by
    have := fair_loop n hn n.size 0 (n.size + 1) (by omega) (by omega) (by omega)
    rw [List.drop_zero] at this
    exact this)).mono (fun e w' ⟨h, ⟨m, hm⟩⟩ => ⟨h, m, hm⟩)

/-- A file's pointer, or nil. -/
def fptr (blk : Nat → Nat) : Option Nat → Value
  | some f => ptr (blk f)
  | none => .pointer none
theorem Rep.names {own : Own} {w : World} {kd : Nat} {blk : Nat → Nat} {d : Dk} (h : Rep own w kd blk d) : ∃ kn ks vc kv, w.heap[kd]? = some (.cells (cells d kn ks vc) 81 (0, 0)) ∧ SMap w kn kv ∧ KvIs kv d.names blk := by
  obtain ⟨kn, ks, vc, o1, o2, b0, ⟨kv, b1, b2⟩, _⟩ := h.body
  exact ⟨kn, ks, vc, kv, b0, b1, b2⟩
set_option maxRecDepth 100000 in
set_option maxHeartbeats 2000000 in
theorem find_walk (own : Own) (w : World) (kd : Nat) (blk : Nat → Nat) (d : Dk) (h : Rep own w kd blk d) (n : ByteArray) (hn : n.size ≤ big) :
    Calls Try.prog 42 #[ptr kd, .string n] w fun e w' => e = .returned (.tuple #[fptr blk (d.find n).1, .int .i64 ((d.find n).2 : Int)]) ∧ ∃ m, w' = w.drewN m := by
  obtain ⟨kn, ks, vc, kv, hb, hm, hkv⟩ := h.names
  have c1 := blk_cell hb 1
  have c2 := blk_cell hb 2
  simp [cells] at c1 c2
  have HF := Lib.hid (fair_walk n w hn)
  have HM := Lib.hid hm
  have HKV := Lib.hid hkv
  clear h hb hm hkv
  unfold ptr Dk.find
  cases hoff : d.off
  · rw [hoff] at c1
    rw [if_neg (by simp)]
    cases hf : fair n
    · rw [hf] at HF
      rw [if_neg (by simp)]
      go_enter Try.func42, Try.ntmps42
      go_wp2_with fail
      refine HF.out.mono ?_
      rintro e w1 ⟨rfl, m, rfl⟩
      go_wp2_with fail
      go_ret2
      exact ⟨rfl, m, rfl⟩
    · rw [hf] at HF
      rw [if_pos rfl]
      have hget := HKV.out.2 n
      obtain ⟨o, ho⟩ : ∃ o, aget d.names n = o := ⟨_, rfl⟩
      rw [ho] at hget ⊢
      have HGET := Lib.hid hget
      clear ho hget
      go_enter Try.func42, Try.ntmps42
      go_wp2_with fail
      refine HF.out.mono ?_
      rintro e w1 ⟨rfl, m, hw1⟩
      have hm1 : SMap w1 kn kv := hw1 ▸ HM.out.of_block rfl
      have c2' : w1.cell? ⟨kd, 2, none⟩ = some (.map (some kn)) := hw1 ▸ c2
      have hz : (zeroValue 72).run Try.prog w1 = .ok (.pointer none) w1 := by go_simp
      have hlk := hm1.lookup (P := Try.prog) (T := 78) Try.underlying78 Try.underlying9 hz n false
      rw [HGET.out] at hlk
      have HW1 := Lib.hid hw1
      clear hw1 c1 c2
      cases o with
      | none =>
        simp only [Bool.false_eq_true, if_false, Option.map_none, Option.getD_none] at hlk
        go_wp2_with fail
        go_ret2
        exact ⟨rfl, m, HW1.out⟩
      | some f =>
        simp only [Bool.false_eq_true, if_false, Option.map_some, Option.getD_some] at hlk
        unfold ptr at hlk
        go_wp2_with fail
        go_ret2
        exact ⟨rfl, m, HW1.out⟩
  · rw [hoff] at c1
    rw [if_pos rfl]
    go_enter Try.func42, Try.ntmps42
    go_wp2_with fail
    go_ret2
    exact ⟨rfl, 0, rfl⟩
end Go.Proofs.Ytonecajkfbdnmaa.Dk

namespace Go.Proofs.Ytonecajkfbdnmaa.Dk
open Go.Lib Go.RowKit Go.ChangeMaps Go.Proofs.Ytonecajkfbdnmaa.Mp Go.Proofs.YtonecajkfbdnmaaW.PrintWords Go.Proofs.YtonecajkfbdnmaaW.PrintLast Go.Proofs.YtonecajkfbdnmaaW.PrintMore Go.Proofs.Ytonecajkfbdnmaa.PDiskRoom
set_option linter.unusedVariables false
set_option linter.unusedSimpArgs false

/-- The range at block r over the map at block b: what is left. -/
def Rng (w : World) (b r : Nat) (left : KV) : Prop :=
  ∃ es clock since seen c0, w.heap[b]? = some (.map es clock) ∧ w.heap[r]? = some (.mapIter (some b) since seen c0) ∧ (∀ e ∈ es.toList, e.born < since) ∧ since ≤ c0 ∧ c0 ≤ clock ∧ (es.toList.map (·.born)).Nodup ∧
    (leftOf es seen).toList.map F = left.map G
/-- .. and an entry that has just come. -/
def Cur (w : World) (b r : Nat) (x : ByteArray × Value) : Prop :=
  ∃ (es : Array MapEntry) (clock since : Nat) (seen : Array Nat) (e : MapEntry), w.heap[b]? = some (.map es clock) ∧ w.heap[r]? = some (.mapIter (some b) since (seen.push e.born) clock) ∧ e ∈ es.toList ∧ (es.toList.map (·.born)).Nodup ∧ F e = G x
theorem Cur.move {w w' : World} {b r : Nat} {x : ByteArray × Value} (h : Cur w b r x) (hb : w'.heap[b]? = w.heap[b]?) (hr : w'.heap[r]? = w.heap[r]?) : Cur w' b r x := by
  obtain ⟨es, clock, since, seen, e, h1, h2, h3⟩ := h
  exact ⟨es, clock, since, seen, e, hb.trans h1, hr.trans h2, h3⟩
theorem Rng.move {w w' : World} {b r : Nat} {l : KV} (h : Rng w b r l) (hb : w'.heap[b]? = w.heap[b]?) (hr : w'.heap[r]? = w.heap[r]?) : Rng w' b r l := by
  obtain ⟨es, clock, since, seen, c0, h1, h2, h3⟩ := h
  exact ⟨es, clock, since, seen, c0, hb.trans h1, hr.trans h2, h3⟩
section
variable {P : Program} {w : World} {b r : Nat} {T K E : TypeId}
/-- The range begins. -/
theorem run_range (kv : KV) (h : SMap w b kv) (hT : P.underlying T = some (.map K E)) : ∃ o, (Instr.range T (.map (some b))).run P w = .ok (.pointer (some ⟨w.heap.size, 0, none⟩)) (w.alloc o) ∧ Rng (w.alloc o) b w.heap.size kv := by
  obtain ⟨es, clock, hb, hm, hborn, hnd⟩ := h
  have hlt := (Array.getElem?_eq_some_iff.1 hb).1
  refine ⟨.mapIter (some b) clock #[] clock, run_range_map w T K E b es clock hT hb, es, clock, clock, #[], clock, ?_, heap_alloc_new w _, hborn, Nat.le_refl _, Nat.le_refl _, hnd, ?_⟩
  · rw [heap_alloc_old w _ hlt]; exact hb
  · have : leftOf es #[] = es := by unfold leftOf; exact Array.filter_eq_self.2 (by simp)
    rw [this, hm]
theorem left_push (es : Array MapEntry) (seen : Array Nat) (e : MapEntry) : (leftOf es (seen.push e.born)).toList = (leftOf es seen).toList.filter (fun x => x.born != e.born) := by
  unfold leftOf
  rw [Array.toList_filter, Array.toList_filter, List.filter_filter]
  refine List.filter_congr fun x hx => ?_
  rw [Bool.eq_iff_iff]
  simp
  constructor
  · rintro ⟨h1, h2⟩; exact ⟨h2, h1⟩
  · rintro ⟨h1, h2⟩; exact ⟨h2, h1⟩
theorem filter_perm : ∀ (l : List MapEntry) (e : MapEntry), e ∈ l → (l.map (·.born)).Nodup → l.Perm (e :: l.filter (fun x => x.born != e.born))
  | [], e, h, _ => by simp at h
  | a :: l, e, h, hn => by
    rw [List.map_cons, List.nodup_cons] at hn
    by_cases ha : a.born = e.born
    · have hae : a = e := by
        rcases List.mem_cons.1 h with h | h
        · exact h.symm
        · exact absurd (ha ▸ List.mem_map_of_mem (f := (·.born)) h) hn.1
      subst hae
      have hf : l.filter (fun x => x.born != a.born) = l := List.filter_eq_self.2 fun x hx => by
        simp
        intro q
        exact hn.1 (q ▸ List.mem_map_of_mem (f := (·.born)) hx)
      rw [List.filter_cons, hf]
      simp
    · have hl : e ∈ l := by
        rcases List.mem_cons.1 h with h | h
        · exact absurd (by rw [h]) ha
        · exact h
      have ih := filter_perm l e hl hn.2
      rw [List.filter_cons, if_pos (by simpa using ha)]
      exact (ih.cons a).trans (List.Perm.swap e a _)
theorem map_FG {l : List MapEntry} {kv : KV} (h : l.map F = kv.map G) {e : MapEntry} (he : e ∈ l) : ∃ x ∈ kv, F e = G x := by
  have : F e ∈ kv.map G := h ▸ List.mem_map_of_mem he
  obtain ⟨x, hx, q⟩ := List.mem_map.1 this
  exact ⟨x, hx, q.symm⟩
theorem G_inj {x y : ByteArray × Value} (h : G x = G y) : x = y := by
  have h1 : Value.string x.1 = Value.string y.1 := show (G x).1 = (G y).1 by rw [h]
  have h2 : x.2 = y.2 := show (G x).2 = (G y).2 by rw [h]
  exact Prod.ext (Value.string.inj h1) h2
theorem set_same {w : World} {r : Nat} {o : Obj} (h : r < w.heap.size) : (setBlock w r o).heap[r]? = some o := by simp [setBlock, h]
theorem set_other {w : World} {r k : Nat} {o : Obj} (h : k ≠ r) : (setBlock w r o).heap[k]? = w.heap[k]? := by
  unfold setBlock
  exact Array.getElem?_setIfInBounds_ne (Ne.symm h)
theorem perm_FG : ∀ {l m : List MapEntry}, l.Perm m → ∀ kv : KV, l.map F = kv.map G → ∃ kv', m.map F = kv'.map G ∧ kv.Perm kv' := fun {l m} hp => by
  induction hp with
  | nil => intro kv h; exact ⟨kv, h, List.Perm.refl _⟩
  | cons x _ ih =>
    intro kv h
    cases kv with
    | nil => simp at h
    | cons y kv =>
      rw [List.map_cons, List.map_cons] at h
      injection h with h1 h2
      obtain ⟨kv', e, p⟩ := ih kv h2
      exact ⟨y :: kv', by rw [List.map_cons, List.map_cons, h1, e], p.cons y⟩
  | swap x y l =>
    intro kv h
    match kv, h with
    | [], h => simp at h
    | [a], h => simp at h
    | a :: c :: kv, h =>
      simp only [List.map_cons, List.cons.injEq] at h
      exact ⟨c :: a :: kv, by simp only [List.map_cons, h.1, h.2.1, h.2.2], List.Perm.swap c a kv⟩
  | trans _ _ ih1 ih2 =>
    intro kv h
    obtain ⟨kv1, e1, p1⟩ := ih1 kv h
    obtain ⟨kv2, e2, p2⟩ := ih2 kv1 e1
    exact ⟨kv2, e2, p1.trans p2⟩
/-- A step: nothing is left, or some entry that is left comes. -/
theorem run_next (left : KV) (h : Rng w b r left) (hbr : b ≠ r) (ty : TypeId) :
    (left = [] ∧ (Instr.next (.pointer (some ⟨r, 0, none⟩)) false ty).run P w = .ok (.tuple #[.bool false]) w) ∨
    ∃ x left' w1 o, left.Perm (x :: left') ∧ (w1 = w ∨ w1 = w.drew) ∧ (Instr.next (.pointer (some ⟨r, 0, none⟩)) false ty).run P w = .ok (.tuple #[.bool true, .string x.1, x.2]) (setBlock w1 r o) ∧ Rng (setBlock w1 r o) b r left' ∧ Cur (setBlock w1 r o) b r x := by
  obtain ⟨es, clock, since, seen, c0, h1, h2, h3, h4, h5, h6, h7⟩ := h
  rcases run_next_at (P := P) w ty r b since c0 seen es clock h2 h1 h3 h4 with ⟨g1, g2⟩ | ⟨e, he, w1, hw1, hrun⟩
  · left
    have : (leftOf es seen).toList = [] := by rw [← List.length_eq_zero_iff]; simpa using g1
    rw [this] at h7
    exact ⟨by cases left with | nil => rfl | cons _ _ => simp at h7, g2⟩
  · right
    have hsub : ((leftOf es seen).toList.map (·.born)).Nodup := by
      unfold leftOf
      rw [Array.toList_filter]
      exact h6.sublist (List.filter_sublist.map _)
    obtain ⟨kv', e1, p1⟩ := perm_FG (filter_perm _ e he hsub) left h7
    cases kv' with
    | nil => simp at e1
    | cons x left' =>
      rw [List.map_cons, List.map_cons] at e1
      injection e1 with ex el
      have hmem : e ∈ es.toList := by unfold leftOf at he; simp at he; simpa using he.1
      have hr1 : w1.heap[r]? = some (.mapIter (some b) since seen c0) := by rcases hw1 with rfl | rfl <;> exact h2
      have hb1 : w1.heap[b]? = some (.map es clock) := by rcases hw1 with rfl | rfl <;> exact h1
      have hlt := (Array.getElem?_eq_some_iff.1 hr1).1
      have hs1 : (setBlock w1 r (.mapIter (some b) since (seen.push e.born) clock)).heap[r]? = some (.mapIter (some b) since (seen.push e.born) clock) := set_same hlt
      have hs2 : (setBlock w1 r (.mapIter (some b) since (seen.push e.born) clock)).heap[b]? = some (.map es clock) := (set_other hbr).trans hb1
      have hk : e.key = .string x.1 := show (F e).1 = (G x).1 by rw [ex]
      have hv : e.val = x.2 := show (F e).2 = (G x).2 by rw [ex]
      refine ⟨x, left', w1, _, p1, hw1, by rw [← hk, ← hv]; exact hrun, ⟨es, clock, since, _, clock, hs2, hs1, h3, by omega, Nat.le_refl _, h6, ?_⟩, ⟨es, clock, since, seen, e, hs2, hs1, hmem, h6, ex⟩⟩
      rw [left_push]; exact el
/-- The entry that has come, read. -/
theorem run_entry (x : ByteArray × Value) (h : Cur w b r x) : (Instr.entry (.pointer (some ⟨r, 0, none⟩))).run P w = .ok (.tuple #[.string x.1, x.2]) w := by
  obtain ⟨es, clock, since, seen, e, h1, h2, h3, h4, h5⟩ := h
  have hk : e.key = .string x.1 := show (F e).1 = (G x).1 by rw [h5]
  have hv : e.val = x.2 := show (F e).2 = (G x).2 by rw [h5]
  rw [← hk, ← hv]
  exact run_entry_at w r b since seen es clock e h2 h1 h3 h4
end
end Go.Proofs.Ytonecajkfbdnmaa.Dk

namespace Go.Proofs.Ytonecajkfbdnmaa.Dk
open Go.Lib Go.RowKit Go.ChangeMaps Go.Proofs.Ytonecajkfbdnmaa.Mp Go.Proofs.YtonecajkfbdnmaaW.PrintWords Go.Proofs.YtonecajkfbdnmaaW.PrintLast Go.Proofs.YtonecajkfbdnmaaW.PrintMore Go.Proofs.Ytonecajkfbdnmaa.PDiskRoom
set_option linter.unusedVariables false
set_option linter.unusedSimpArgs false

theorem ints_length (s : By) : (ints s).length = s.length := by simp [ints]
/-- What is seen of file f lies in its third cell. -/
theorem Rep.seen {own : Own} {w : World} {kd : Nat} {blk : Nat → Nat} {d : Dk} (h : Rep own w kd blk d) (f : Nat) (hf : f < d.files.length) :
    ∃ vk vu A c, w.heap[blk f]? = some (.cells #[vk, vu, .slice A (d.file f).seen.length c] 77 (0, 0)) ∧ (d.file f).seen.length ≤ c ∧ Kd.C kB w A (ints (d.file f).seen).length (ints (d.file f).seen) := by
  obtain ⟨vk, vu, vs, h0, _, _, h3⟩ := h.files f hf
  have e : d.files[f] = d.file f := by unfold Dk.file; rw [List.getD_eq_getElem?_getD, List.getElem?_eq_getElem hf]; rfl
  rw [e] at h3
  obtain ⟨A, c, rfl⟩ := Kd.R_slice h3
  have hr := Kd.R_reads' h3
  rw [ints_length] at h0 hr
  exact ⟨vk, vu, A, c, h0, hr.2.1, by rw [ints_length]; exact hr.2.2⟩
theorem perm_step {l left' : KV} {rest : AM} {x : ByteArray × Value} {blk : Nat → Nat} (h1 : l.Perm (rest.map (encM blk))) (h2 : l.Perm (x :: left')) : ∃ (y : ByteArray × Nat) (rest' : AM), rest.Perm (y :: rest') ∧ encM blk y = x ∧ left'.Perm (rest'.map (encM blk)) := by
  have hx : x ∈ rest.map (encM blk) := (h2.symm.trans h1).subset (by simp)
  obtain ⟨y, hy, rfl⟩ := List.mem_map.1 hx
  obtain ⟨s, t, rfl⟩ := List.append_of_mem hy
  refine ⟨y, s ++ t, List.perm_middle, rfl, ?_⟩
  have h3 := (h2.symm.trans h1).trans ((List.perm_middle (a := y) (l₁ := s) (l₂ := t)).map (encM blk))
  rw [List.map_cons] at h3
  exact List.Perm.cons_inv h3
theorem below_setBlock {B r : Nat} {w w1 : World} {o : Obj} (h : Below B w w1) (hr : B ≤ r) : Below B w (setBlock w1 r o) :=
  ⟨h.os, h.tape, h.output, by unfold setBlock; simp; exact h.size, fun k hk => (set_other (by omega)).trans (h.block k hk)⟩
theorem below_either {B : Nat} {w w0 w1 : World} (h : Below B w w0) (hw : w1 = w0 ∨ w1 = w0.drew) : Below B w w1 := by
  rcases hw with rfl | rfl
  · exact h
  · exact pw_below_drewN h 1
def wt (d : Dk) (x : ByteArray × Nat) : Nat := (d.file x.2).seen.length
set_option maxRecDepth 100000 in
set_option maxHeartbeats 2000000 in
theorem used_walk (own : Own) (w : World) (kd : Nat) (blk : Nat → Nat) (d : Dk) (h : Rep own w kd blk d) (hs : Srt d.names) (hlt : ∀ x ∈ d.names, x.2 < d.files.length) (hu : d.used ≤ big) :
    Calls Try.prog 56 #[ptr kd] w fun e w' => e = .returned (.int .i64 (d.used : Int)) ∧ Below w.heap.size w w' := by
  obtain ⟨kn, ks, vc, kv, hb, hm, hkv⟩ := h.names
  have c2 := blk_cell hb 2
  simp [cells] at c2
  have hknlt := hm.lt
  obtain ⟨o, hrun, hrng⟩ := run_range (P := Try.prog) kv hm Try.underlying78
  have hp := hkv.perm hs
  have HH := Lib.hid h
  have HP := Lib.hid hp
  have HLT := Lib.hid hlt
  have HRNG := Lib.hid hrng
  have HU := Lib.hid hu
  clear h hb hm hkv hp hlt hrng hs hu
  unfold ptr
  go_enter Try.func56, Try.ntmps56
  go_wp2_with fail
  go_loopg [3] d.names.length (fun gf v3 wr => ∃ (left : KV) (rest done : AM), rest.length ≤ gf ∧ left.Perm (rest.map (encM blk)) ∧ (done ++ rest).Perm d.names ∧ v3 = .int .i64 (((done.map (wt d)).sum : Nat) : Int) ∧ Below w.heap.size w wr ∧ w.heap.size < wr.heap.size ∧ Rng wr kn w.heap.size left)
  case atStart => exact ⟨kv, d.names, [], Nat.le_refl _, HP.out, List.Perm.refl _, rfl, below_alloc (Below.refl _ _) _, by simp, HRNG.out⟩
  case round =>
    obtain ⟨left, rest, done, hgf, hlp, hdp, rfl, hbw, hsz, hrg⟩ := hrel
    have hne : kn ≠ w.heap.size := by omega
    rcases run_next (P := Try.prog) left hrg hne 0 with ⟨rfl, hnx⟩ | ⟨x, left', w1, o1, hpx, hw1, hnx, hrg1, hcur⟩
    · have hr0 : rest = [] := by
        have := hlp.length_eq
        simp at this
        exact List.eq_nil_of_length_eq_zero this.symm
      subst hr0
      rw [List.append_nil] at hdp
      have hsum : (done.map (wt d)).sum = d.used := ((hdp.map (wt d)).sum_nat)
      go_wp2_with fail
      go_ret
      exact ⟨by rw [← hsum]; rfl, hbw⟩
    · obtain ⟨y, rest', hry, hxy, hlp'⟩ := perm_step hlp hpx
      obtain ⟨n, f⟩ := y
      have hdp' : (done ++ [(n, f)] ++ rest').Perm d.names := by
        refine List.Perm.trans ?_ hdp
        rw [List.append_assoc]
        exact (hry.symm.append_left done)
      have hfl : f < d.files.length := HLT.out (n, f) (hdp'.subset (by simp))
      have hsum := (hdp'.map (wt d)).sum_nat
      have hsum' : ((done.map (wt d)).sum + wt d (n, f)) + (rest'.map (wt d)).sum = d.used := by
        rw [show d.used = (d.names.map (wt d)).sum from rfl, ← hsum]
        simp only [List.map_append, List.sum_append_nat, List.map_cons, List.map_nil, List.sum_cons, List.sum_nil]
        omega
      have hbd : (done.map (wt d)).sum + wt d (n, f) ≤ 2305843009213693952 := by have h1 : d.used ≤ 2305843009213693952 := HU.out; omega
      have hB2 := below_setBlock (o := o1) (below_either hbw hw1) (Nat.le_refl w.heap.size)
      obtain ⟨vk, vu, A, c, hfb, _, _⟩ := HH.out.seen f hfl
      have hcell := pw_cell_below hB2 ((blk_cell hfb 2).trans rfl : w.cell? ⟨blk f, 2, none⟩ = some (.slice A (d.file f).seen.length c))
      have hent := run_entry (P := Try.prog) x hcur
      subst hxy
      replace hent : (Instr.entry (.pointer (some ⟨w.heap.size, 0, none⟩))).run Try.prog (setBlock w1 w.heap.size o1) = .ok (.tuple #[.string n, .pointer (some ⟨blk f, 0, none⟩)]) (setBlock w1 w.heap.size o1) := hent
      replace hnx : (Instr.next (.pointer (some ⟨w.heap.size, 0, none⟩)) false 0).run Try.prog wr = .ok (.tuple #[.bool true, .string n, .pointer (some ⟨blk f, 0, none⟩)]) (setBlock w1 w.heap.size o1) := hnx
      have hsz2 : w.heap.size < (setBlock w1 w.heap.size o1).heap.size := by
        unfold setBlock; simp
        rcases hw1 with rfl | rfl
        · exact hsz
        · exact hsz
      obtain ⟨W2, hW2⟩ : ∃ W2, setBlock w1 w.heap.size o1 = W2 := ⟨_, rfl⟩
      rw [hW2] at hnx hent hcell hB2 hrg1 hsz2
      have hwt : wt d (n, f) = (d.file f).seen.length := rfl
      rw [hwt] at hbd
      obtain ⟨S, hS⟩ : ∃ S, (done.map (wt d)).sum = S := ⟨_, rfl⟩
      rw [hS] at hbd ⊢
      have HSS := Lib.hid hS
      have HB2 := Lib.hid hB2
      have HRG1 := Lib.hid hrg1
      have HDP := Lib.hid hdp'
      have HLP := Lib.hid hlp'
      have hlen := hry.length_eq
      rw [List.length_cons] at hlen
      obtain ⟨g', rfl⟩ : ∃ g', gk = g' + 1 := ⟨gk - 1, by omega⟩
      clear hW2 hS hB2 hrg1 hdp' hlp' hw1 hcur hpx hlp hdp hrg hbw hsum hsum' hry hfb
      go_wp2_with fail
      go_roundg g'
      case measure => omega
      case rel =>
        refine ⟨left', rest', done ++ [(n, f)], by omega, HLP.out, HDP.out, ?_, HB2.out, hsz2, HRG1.out⟩
        rw [List.map_append, List.sum_append_nat, HSS.out]
        simp [wt]
end Go.Proofs.Ytonecajkfbdnmaa.Dk

namespace Go.Proofs.Ytonecajkfbdnmaa.Dk
open Go.Lib Go.RowKit Go.ChangeMaps Go.Proofs.Ytonecajkfbdnmaa.Mp Go.Proofs.YtonecajkfbdnmaaW.PrintWords Go.Proofs.YtonecajkfbdnmaaW.PrintLast Go.Proofs.YtonecajkfbdnmaaW.PrintMore Go.Proofs.Ytonecajkfbdnmaa.PDiskRoom
open Go.MapKept (IsKey run_checkKey run_findKey heap_set bytes_beq)
set_option linter.unusedVariables false
set_option linter.unusedSimpArgs false
section
variable {P : Program} {w : World} {b : Nat} {kv : KV} {T K E : TypeId}
theorem SMap_delete (h : SMap w b kv) (hT : P.underlying T = some (.map K E)) (hK : P.underlying K = some .string) (k : ByteArray) (ty : TypeId) :
    ∃ o, (Builtin.delete_ #[T, K] ty #[.map (some b), .string k]).run P w = .ok (.tuple #[]) (setBlock w b o) ∧ SMap (setBlock w b o) b (kdel kv k) := by
  obtain ⟨es, clock, hb, hm, hborn, hnd⟩ := h
  have h1 : (Instr.checkKey es.isEmpty 10000 K (.string k)).run P w = .ok () w := run_checkKey (P := P) (w := w) hK (isKey k) es.isEmpty 9999
  rcases find_ix k es.toList kv hm with ⟨g1, _, g3, g4⟩ | ⟨j, v0, e, g1, ge, _, gk, g5, _, g7⟩
  · have h2 := run_findKey (P := P) (w := w) hK (g4 0)
    refine ⟨.map es clock, ?_, es, clock, (heap_set hb).1, ?_, hborn, hnd⟩
    · simp [Builtin.delete_, run_underlying hT, MapKept.run_getObj_map (P := P) hb, h1, h2, MapKept.run_setObj_map (P := P) _ hb, Result.andThen, setBlock]
    · rw [g3]; exact hm
  · have h2 := run_findKey (P := P) (w := w) hK (g5 0)
    have hj : j < es.size := by
      have := (List.getElem?_eq_some_iff.1 ge).1
      simpa using this
    refine ⟨.map (es.eraseIdx j hj) clock, ?_, _, _, (heap_set hb).1, ?_, ?_, ?_⟩
    · simp [Builtin.delete_, run_underlying hT, MapKept.run_getObj_map (P := P) hb, h1, h2, MapKept.run_setObj_map (P := P) _ hb, Result.andThen, setBlock, Array.eraseIdxIfInBounds, hj]
    · rw [Array.toList_eraseIdx]; exact g7
    · intro x hx
      rw [Array.toList_eraseIdx] at hx
      exact hborn x (List.mem_of_mem_eraseIdx hx)
    · rw [Array.toList_eraseIdx]
      exact hnd.sublist ((List.eraseIdx_sublist _ _).map _)
/-- A delete, at the operation. -/
theorem wpList_del {ops : Array Oper} {rest : List Oper} {o : Oper} {a : Act} {Q : Exit → Act → World → Prop} (h : SMap w b kv)
    (hg : o.guard = none) (m x : Operand) (T K : TypeId) (hop : o.op = Op.call { callee := Callee.builtin Builtin.delete, args := #[m, x], argTypes := #[T, K] }) (hT : P.underlying T = some (.map K E)) (hK : P.underlying K = some .string)
    (hm : a.eval m = .map (some b)) (k : ByteArray) (hx : a.eval x = .string k)
    (hn : ∀ w', SMap w' b (kdel kv k) → w.grownBy w' (some b) → wpList P ops Q rest (a.put o.dst (.tuple #[])) w') : wpList P ops Q (o :: rest) a w := by
  refine wpList_plain hg fun K' hK' => ?_
  obtain ⟨ob, hrun, r1⟩ := SMap_delete h hT hK k o.type
  obtain ⟨es, clock, hb, _⟩ := h
  unfold Oper.wp
  simp [execOp, hop, resolve, invoke, builtin, hm, hx, hrun, Result.andThen]
  exact hK' _ _ (hn _ r1 ⟨rfl, rfl, rfl, by simp [setBlock], fun i _ hi => (heap_set hb).2 i (fun e => hi (by rw [e]))⟩)
end
end Go.Proofs.Ytonecajkfbdnmaa.Dk

namespace Go.Proofs.Ytonecajkfbdnmaa.Dk
open Go.Lib Go.RowKit Go.ChangeMaps Go.Proofs.Ytonecajkfbdnmaa.Mp Go.Proofs.YtonecajkfbdnmaaW.PrintWords Go.Proofs.YtonecajkfbdnmaaW.PrintLast Go.Proofs.YtonecajkfbdnmaaW.PrintMore Go.Proofs.Ytonecajkfbdnmaa.PDiskRoom
set_option linter.unusedVariables false
set_option linter.unusedSimpArgs false

theorem kC_open {w : World} {x : C99} {cs : List Value} (h : kC.K w x cs) : cs = [.int .i64 x.what, .string x.a, .string x.b, .pointer x.p] := by
  obtain ⟨_, _, rfl, rfl, ⟨_, _, rfl, rfl, ⟨_, _, rfl, rfl, rfl⟩⟩⟩ := h
  rfl
def zC : C99 := ⟨0, ⟨#[]⟩, ⟨#[]⟩, none⟩
/-- Change i, at its cells. -/
theorem at_C {w : World} {A : Option Addr} {xs : List C99} (h : Kd.C kC w A xs.length xs) (i : Nat) (hi : i < xs.length) : ∃ ad, A = some ad ∧ w.cell? (ad.add (i * 4)) = some (.int .i64 xs[i].what) ∧
    w.cell? ⟨(ad.add (i * 4)).block, (ad.add (i * 4)).off + 1, none⟩ = some (.string xs[i].a) ∧ w.cell? ⟨(ad.add (i * 4)).block, (ad.add (i * 4)).off + 2, none⟩ = some (.string xs[i].b) ∧
    w.cell? ⟨(ad.add (i * 4)).block, (ad.add (i * 4)).off + 3, none⟩ = some (.pointer xs[i].p) := by
  obtain ⟨ad, c, e, _, hK, hc0⟩ := Kd.C_get h zC (i : Int) (by omega) (by omega)
  have hc : ∀ j u, c[j]? = some u → w.cell? (ad.add (i * 4 + j)) = some u := hc0
  have e1 : xs.getD (i : Int).toNat zC = xs[i] := by simp [hi]
  rw [e1] at hK
  obtain rfl := kC_open hK
  exact ⟨ad, e, hc 0 _ rfl, by rw [← add_field _ _ 1 (by omega)]; exact hc 1 _ rfl, by rw [← add_field _ _ 2 (by omega)]; exact hc 2 _ rfl, by rw [← add_field _ _ 3 (by omega)]; exact hc 3 _ rfl⟩
/-- A cell is no map: it stays where only a map is written. -/
theorem cell_grown {w w' : World} {kn : Nat} {kv : KV} {p : Addr} {v : Value} (hm : SMap w kn kv) (hg : w.grownBy w' (some kn)) (hc : w.cell? p = some v) : w'.cell? p = some v := by
  have hlt := World.block_lt_of_cell? w p hc
  have hne : p.block ≠ kn := fun e => by
    obtain ⟨es, clock, hb, _⟩ := hm
    unfold World.cell? at hc
    rw [e, hb] at hc
    cases hc
  have := hg.block p.block hlt (fun e => hne (Option.some.inj e))
  rw [World.cell?_of_block this]; exact hc
theorem chok_drop : ∀ (l : List Ch) (m : AM) (i : Nat) (hi : i < l.length), ChOk m l → l[i].ok (chplay m (l.take i))
  | c :: l, m, 0, _, h => h.1
  | c :: l, m, i + 1, hi, h => chok_drop l (c.play m) i (by simpa using hi) h.2
theorem chplay_succ (m : AM) (l : List Ch) (i : Nat) (hi : i < l.length) : chplay m (l.take (i + 1)) = l[i].play (chplay m (l.take i)) := by
  rw [List.take_succ_eq_append_getElem hi, chplay_snoc]
theorem srt_chplay : ∀ (l : List Ch) (m : AM), Srt m → Srt (chplay m l)
  | [], m, h => h
  | c :: l, m, h => srt_chplay l _ (c.srt h)

theorem SMap_alloc {w : World} {b : Nat} {kv : KV} (h : SMap w b kv) (o : Obj) : SMap (w.alloc o) b kv := h.of_block (heap_alloc_old w o h.lt)
theorem grown_alloc {w w1 : World} {row : Option Nat} (h : w.grownBy w1 row) (o : Obj) : w.grownBy (w1.alloc o) row := h.trans (World.grownBy_alloc w1 o row)
set_option maxRecDepth 100000 in
set_option maxHeartbeats 4000000 in
theorem play_walk (blk : Nat → Nat) (l : List Ch) (m : AM) (kn : Nat) (A : Option Addr) (c : Nat) (w : World) (kv : KV) (hm : SMap w kn kv) (hkv : KvIs kv m blk) (hs : Srt m) (hC : Kd.C kC w A (l.map (encC blk)).length (l.map (encC blk))) (hok : ChOk m l) (hl : l.length ≤ big) :
    Calls Try.prog 46 #[.map (some kn), .slice A l.length c] w fun e w' => e = .returned (.tuple #[]) ∧ w.grownBy w' (some kn) ∧ ∃ kv', SMap w' kn kv' ∧ KvIs kv' (chplay m l) blk := by
  have hlb : l.length ≤ 2305843009213693952 := hl
  have HM := Lib.hid hm
  have HC := Lib.hid hC
  have HOK := Lib.hid hok
  have HS := Lib.hid hs
  have hlen : (l.map (encC blk)).length = l.length := List.length_map ..
  have HLEN := Lib.hid hlen
  clear hC hok hs hlen hl
  go_enter Try.func46, Try.ntmps46
  go_wp2_with fail
  go_loopw [8] (fun v8 wr => ∃ (i : Nat) (kv1 : KV), i ≤ l.length ∧ v8 = .int .i64 i ∧ w.grownBy wr (some kn) ∧ SMap wr kn kv1 ∧ KvIs kv1 (chplay m (l.take i)) blk) (fun v8 _ => l.length - (RowKit.intOf v8).toNat)
  case atStart => exact ⟨0, kv, Nat.zero_le _, rfl, ⟨rfl, rfl, rfl, Nat.le_refl _, fun _ _ _ => rfl⟩, hm, hkv⟩
  case round =>
    clear hm hkv
    obtain ⟨i, kv1, hi, rfl, hg, hm1, hkv1⟩ := hrel
    have HG := Lib.hid hg
    have HM1 := Lib.hid hm1
    have HKV := Lib.hid hkv1
    clear hg hm1 hkv1
    by_cases hlt : i < l.length
    · obtain ⟨ad, rfl, g0, g1, g2, g3⟩ := at_C HC.out i (by rw [HLEN.out]; exact hlt)
      have q0 := cell_grown HM.out HG.out g0
      have q1 := cell_grown HM.out HG.out g1
      have q2 := cell_grown HM.out HG.out g2
      have q3 := cell_grown HM.out HG.out g3
      rw [List.getElem_map] at q0 q1 q2 q3
      have hch := chok_drop l m i hlt HOK.out
      have hnx := chplay_succ m l i hlt
      have hsr := srt_chplay (l.take i) m HS.out
      obtain ⟨x, hx⟩ : ∃ x, l[i] = x := ⟨_, rfl⟩
      rw [hx] at q0 q1 q2 q3 hch hnx
      have HNX := Lib.hid hnx
      have HSR := Lib.hid hsr
      have HCH := Lib.hid hch
      clear hx g0 g1 g2 g3 hnx hsr hch
      have qi0 : (0 : Int) ≤ (i : Int) := by omega
      have qi1 : (i : Int) < (l.length : Int) := by omega
      cases x with
      | makes n f =>
        replace q0 : wr.cell? (ad.add (i * 4)) = some (.int .i64 0) := q0
        replace q1 : wr.cell? ⟨(ad.add (i * 4)).block, (ad.add (i * 4)).off + 1, none⟩ = some (.string n) := q1
        replace q2 : wr.cell? ⟨(ad.add (i * 4)).block, (ad.add (i * 4)).off + 2, none⟩ = some (.string ⟨#[]⟩) := q2
        replace q3 : wr.cell? ⟨(ad.add (i * 4)).block, (ad.add (i * 4)).off + 3, none⟩ = some (.pointer (some ⟨blk f, 0, none⟩)) := q3
        go_wp2_with (at_mapUpdate; refine wpList_put (kv := kv1) (SMap_alloc HM1.out _) rfl _ _ _ 78 rfl Try.underlying78 Try.underlying9 rfl _ _ rfl rfl ?_; intro w2 hs2 hg2; have HS2 := Lib.hid hs2; have HG2 := Lib.hid ((grown_alloc HG.out _).trans hg2); clear hs2 hg2)
        go_roundw
        case rel => exact ⟨i + 1, _, by omega, by go_num, HG2.out, HS2.out, by rw [HNX.out]; exact HKV.out.put n f⟩
        case measure => simp [RowKit.intOf]; omega
      | renames a b =>
        obtain ⟨hab, f, hf⟩ := HCH.out
        replace q0 : wr.cell? (ad.add (i * 4)) = some (.int .i64 1) := q0
        replace q1 : wr.cell? ⟨(ad.add (i * 4)).block, (ad.add (i * 4)).off + 1, none⟩ = some (.string a) := q1
        replace q2 : wr.cell? ⟨(ad.add (i * 4)).block, (ad.add (i * 4)).off + 2, none⟩ = some (.string b) := q2
        replace q3 : wr.cell? ⟨(ad.add (i * 4)).block, (ad.add (i * 4)).off + 3, none⟩ = some (.pointer none) := q3
        have hz : (zeroValue 72).run Try.prog (wr.alloc (.cells #[.int .i64 1, .string a, .string b, .pointer none] 99)) = .ok (.pointer none) (wr.alloc (.cells #[.int .i64 1, .string a, .string b, .pointer none] 99)) := by go_simp
        have hlk := (SMap_alloc HM1.out (.cells #[.int .i64 1, .string a, .string b, .pointer none] 99)).lookup (P := Try.prog) (T := 78) Try.underlying78 Try.underlying9 hz a false
        rw [HKV.out.2, hf] at hlk
        simp only [Bool.false_eq_true, if_false, Option.map_some, Option.getD_some] at hlk
        unfold ptr at hlk
        have hnx2 : chplay m (l.take (i + 1)) = adel (aput (chplay m (l.take i)) b f) a := by
          rw [HNX.out]
          show (match aget (chplay m (l.take i)) a with | some f => adel (aput (chplay m (l.take i)) b f) a | none => chplay m (l.take i)) = _
          rw [hf]
        have HNX2 := Lib.hid hnx2
        have HF := Lib.hid hf
        clear hz hf hnx2
        go_wp2_with (first | (at_mapUpdate; refine wpList_put (kv := kv1) (SMap_alloc HM1.out _) rfl _ _ _ 78 rfl Try.underlying78 Try.underlying9 rfl _ _ rfl rfl ?_; intro w2 hs2 hg2; have HS2 := Lib.hid hs2; have HG2 := Lib.hid ((grown_alloc HG.out _).trans hg2); have c0 := cell_grown (SMap_alloc HM1.out _) hg2 (by simp [go_sem] : (wr.alloc (.cells #[.int .i64 1, .string a, .string b, .pointer none] 99)).cell? ⟨wr.heap.size, 0, none⟩ = some (.int .i64 1)); have c1 := cell_grown (SMap_alloc HM1.out _) hg2 (by simp [go_sem] : (wr.alloc (.cells #[.int .i64 1, .string a, .string b, .pointer none] 99)).cell? ⟨wr.heap.size, 1, none⟩ = some (.string a)); clear hs2 hg2 hlk) | (at_delete; refine wpList_del HS2.out rfl _ _ 78 9 rfl Try.underlying78 Try.underlying9 rfl a rfl ?_; intro w3 hs3 hg3; have HS3 := Lib.hid hs3; have HG3 := Lib.hid (HG2.out.trans hg3); clear hs3 hg3))
        go_roundw
        case rel => exact ⟨i + 1, _, by omega, by go_num, HG3.out, HS3.out, by rw [HNX2.out]; exact (HKV.out.put b f).del (srt_put HSR.out b f) a⟩
        case measure => simp [RowKit.intOf]; omega
      | removes a =>
        replace q0 : wr.cell? (ad.add (i * 4)) = some (.int .i64 2) := q0
        replace q1 : wr.cell? ⟨(ad.add (i * 4)).block, (ad.add (i * 4)).off + 1, none⟩ = some (.string a) := q1
        replace q2 : wr.cell? ⟨(ad.add (i * 4)).block, (ad.add (i * 4)).off + 2, none⟩ = some (.string ⟨#[]⟩) := q2
        replace q3 : wr.cell? ⟨(ad.add (i * 4)).block, (ad.add (i * 4)).off + 3, none⟩ = some (.pointer none) := q3
        go_wp2_with (at_delete; refine wpList_del (SMap_alloc HM1.out _) rfl _ _ 78 9 rfl Try.underlying78 Try.underlying9 rfl a rfl ?_; intro w3 hs3 hg3; have HS3 := Lib.hid hs3; have HG3 := Lib.hid ((grown_alloc HG.out _).trans hg3); clear hs3 hg3)
        go_roundw
        case rel => exact ⟨i + 1, _, by omega, by go_num, HG3.out, HS3.out, by rw [HNX.out]; exact HKV.out.del HSR.out a⟩
        case measure => simp [RowKit.intOf]; omega
    · go_wp2_with fail
      go_end0
      exact ⟨rfl, HG.out, kv1, HM1.out, by have h := HKV.out; rwa [List.take_of_length_le (by omega)] at h⟩
end Go.Proofs.Ytonecajkfbdnmaa.Dk
