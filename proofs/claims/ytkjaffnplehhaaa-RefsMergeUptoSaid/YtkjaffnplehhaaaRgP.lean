/- Plain law of merging stamps: the best of each name, sorted. No program. -/
namespace Go.Proofs.Ytkjaffnplehhaaa.Rg
set_option linter.unusedVariables false

abbrev By := List UInt8
structure Stp where
  n : By
  id : By
  seq : Nat
  deriving DecidableEq
/-- The better one of two of a name. -/
def bt (a b : Stp) : Prop := b.seq < a.seq ∨ (a.seq = b.seq ∧ b.id < a.id)
theorem by_lt_trans {a b c : By} (h1 : a < b) (h2 : b < c) : a < c := List.lt_trans h1 h2
theorem by_lt_irrefl (a : By) : ¬ a < a := List.lt_irrefl a
theorem by_tri (a b : By) : a < b ∨ a = b ∨ b < a := by
  by_cases h1 : a < b
  · exact .inl h1
  · by_cases h2 : b < a
    · exact .inr (.inr h2)
    · exact .inr (.inl (List.le_antisymm (List.not_lt.1 h2) (List.not_lt.1 h1)))
theorem bt_trans {a b c : Stp} (h1 : bt a b) (h2 : bt b c) : bt a c := by
  rcases h1 with h1 | ⟨e1, h1⟩ <;> rcases h2 with h2 | ⟨e2, h2⟩
  · exact .inl (by omega)
  · exact .inl (by omega)
  · exact .inl (by omega)
  · exact .inr ⟨by omega, by_lt_trans h2 h1⟩
theorem bt_irrefl (a : Stp) : ¬ bt a a := by
  rintro (h | ⟨_, h⟩)
  · omega
  · exact by_lt_irrefl _ h
theorem bt_tri {a b : Stp} (h : a.n = b.n) : bt a b ∨ a = b ∨ bt b a := by
  rcases Nat.lt_trichotomy a.seq b.seq with h1 | h1 | h1
  · exact .inr (.inr (.inl h1))
  · rcases by_tri a.id b.id with h2 | h2 | h2
    · exact .inr (.inr (.inr ⟨h1.symm, h2⟩))
    · refine .inr (.inl ?_)
      cases a; cases b; simp_all
    · exact .inl (.inr ⟨h1, h2⟩)
  · exact .inl (.inl h1)
/-- No worse: a is the better one or the same. -/
theorem not_bt_trans {a b c : Stp} (hn : a.n = b.n) (hm : b.n = c.n) (h1 : ¬ bt b a) (h2 : ¬ bt c b) : ¬ bt c a := by
  intro h
  rcases bt_tri hm with h3 | h3 | h3
  · exact h1 (bt_trans h3 h)
  · subst h3; exact h1 h
  · exact h2 h3
/-- m is what the stamps l come to. -/
structure IsMerge (l m : List Stp) : Prop where
  srt : m.Pairwise (fun x y => x.n < y.n)
  from_ : ∀ x ∈ m, x ∈ l
  best : ∀ y ∈ l, ∃ x ∈ m, x.n = y.n ∧ ¬ bt y x
theorem srt_name {m : List Stp} (h : m.Pairwise (fun x y => x.n < y.n)) {x y : Stp} (hx : x ∈ m) (hy : y ∈ m) (e : x.n = y.n) : x = y := by
  induction m with
  | nil => cases hx
  | cons a r ih =>
    obtain ⟨h1, h2⟩ := List.pairwise_cons.1 h
    rcases List.mem_cons.1 hx with ex | hx'
    · rcases List.mem_cons.1 hy with ey | hy'
      · rw [ex, ey]
      · have h3 := h1 y hy'
        rw [← ex, e] at h3; exact absurd h3 (by_lt_irrefl _)
    · rcases List.mem_cons.1 hy with ey | hy'
      · have h3 := h1 x hx'
        rw [← ey, e] at h3; exact absurd h3 (by_lt_irrefl _)
      · exact ih h2 hx' hy'
theorem IsMerge.mem_iff {l m : List Stp} (h : IsMerge l m) (x : Stp) : x ∈ m ↔ x ∈ l ∧ ∀ y ∈ l, y.n = x.n → ¬ bt y x := by
  constructor
  · intro hx
    refine ⟨h.from_ x hx, fun y hy e hb => ?_⟩
    obtain ⟨z, hz, e1, h1⟩ := h.best y hy
    have : z = x := srt_name h.srt hz hx (e1.trans e)
    subst this
    exact h1 hb
  · rintro ⟨hx, hb⟩
    obtain ⟨z, hz, e1, h1⟩ := h.best x hx
    have h2 := hb z (h.from_ z hz) e1
    rcases bt_tri e1 with h3 | h3 | h3
    · exact absurd h3 h2
    · rw [← h3]; exact hz
    · exact absurd h3 h1
theorem srt_ext : ∀ {m k : List Stp}, m.Pairwise (fun x y => x.n < y.n) → k.Pairwise (fun x y => x.n < y.n) → (∀ x, x ∈ m ↔ x ∈ k) → m = k
  | [], [], _, _, _ => rfl
  | [], b :: k, _, _, h => absurd ((h b).2 (List.mem_cons_self ..)) (by simp)
  | a :: m, [], _, _, h => absurd ((h a).1 (List.mem_cons_self ..)) (by simp)
  | a :: m, b :: k, h1, h2, h => by
    obtain ⟨p1, p2⟩ := List.pairwise_cons.1 h1
    obtain ⟨q1, q2⟩ := List.pairwise_cons.1 h2
    have hab : a = b := by
      rcases List.mem_cons.1 ((h a).1 (List.mem_cons_self ..)) with e | ha
      · exact e
      · rcases List.mem_cons.1 ((h b).2 (List.mem_cons_self ..)) with e | hb
        · exact e.symm
        · exact absurd (by_lt_trans (q1 a ha) (p1 b hb)) (by_lt_irrefl _)
    subst hab
    congr 1
    refine srt_ext p2 q2 (fun x => ?_)
    constructor
    · intro hx
      rcases List.mem_cons.1 ((h x).1 (List.mem_cons_of_mem _ hx)) with e | hx'
      · subst e; exact absurd (p1 x hx) (by_lt_irrefl _)
      · exact hx'
    · intro hx
      rcases List.mem_cons.1 ((h x).2 (List.mem_cons_of_mem _ hx)) with e | hx'
      · subst e; exact absurd (q1 x hx) (by_lt_irrefl _)
      · exact hx'
/-- What stamps come to hangs on which they are alone. -/
theorem IsMerge.same {l l' m m' : List Stp} (h : IsMerge l m) (h' : IsMerge l' m') (he : ∀ x, x ∈ l ↔ x ∈ l') : m = m' :=
  srt_ext h.srt h'.srt (fun x => by
    rw [h.mem_iff, h'.mem_iff, he x]
    exact and_congr_right (fun _ => forall_congr' (fun y => by rw [he y])))
theorem IsMerge.of_iff {l l' m : List Stp} (h : IsMerge l m) (he : ∀ x, x ∈ l ↔ x ∈ l') : IsMerge l' m :=
  ⟨h.srt, fun x hx => (he x).1 (h.from_ x hx), fun y hy => h.best y ((he y).2 hy)⟩
theorem IsMerge.self {l m : List Stp} (h : IsMerge l m) : IsMerge m m :=
  ⟨h.srt, fun x hx => hx, fun y hy => ⟨y, hy, rfl, bt_irrefl y⟩⟩
/-- Stamps merged beforehand. -/
theorem IsMerge.pre {l m c k : List Stp} (h : IsMerge l m) (h' : IsMerge (m ++ c) k) : IsMerge (l ++ c) k := by
  refine ⟨h'.srt, fun x hx => ?_, fun y hy => ?_⟩
  · rcases List.mem_append.1 (h'.from_ x hx) with h1 | h1
    · exact List.mem_append_left _ (h.from_ x h1)
    · exact List.mem_append_right _ h1
  · rcases List.mem_append.1 hy with h1 | h1
    · obtain ⟨z, hz, e1, b1⟩ := h.best y h1
      obtain ⟨x, hx, e2, b2⟩ := h'.best z (List.mem_append_left _ hz)
      exact ⟨x, hx, e2.trans e1, not_bt_trans e2 e1 b2 b1⟩
    · exact h'.best y (List.mem_append_right _ h1)
/-! ### one stamp behind the other, each at its place -/
/-- The reference's step. -/
def ins : List Stp → Stp → List Stp
  | [], x => [x]
  | y :: r, x => if y.n < x.n then y :: ins r x else if y.n = x.n then (if (y.seq < x.seq ∨ (x.seq = y.seq ∧ y.id < x.id)) then x :: r else y :: r) else x :: y :: r
theorem ins_mem : ∀ (m : List Stp) (x z : Stp), z ∈ ins m x → z = x ∨ z ∈ m
  | [], x, z, h => by simp [ins] at h; exact .inl h
  | y :: r, x, z, h => by
    unfold ins at h
    split at h
    · rcases List.mem_cons.1 h with rfl | h
      · exact .inr (List.mem_cons_self ..)
      · rcases ins_mem r x z h with h | h
        · exact .inl h
        · exact .inr (List.mem_cons_of_mem _ h)
    · split at h
      · split at h
        · rcases List.mem_cons.1 h with rfl | h
          · exact .inl rfl
          · exact .inr (List.mem_cons_of_mem _ h)
        · exact .inr h
      · rcases List.mem_cons.1 h with rfl | h
        · exact .inl rfl
        · exact .inr h
theorem ins_srt : ∀ (m : List Stp) (x : Stp), m.Pairwise (fun x y => x.n < y.n) → (ins m x).Pairwise (fun x y => x.n < y.n)
  | [], x, _ => List.pairwise_singleton _ _
  | y :: r, x, h => by
    obtain ⟨h1, h2⟩ := List.pairwise_cons.1 h
    unfold ins
    split
    · rename_i hlt
      refine List.pairwise_cons.2 ⟨fun z hz => ?_, ins_srt r x h2⟩
      rcases ins_mem r x z hz with rfl | hz
      · exact hlt
      · exact h1 z hz
    · rename_i hlt
      split
      · rename_i heq
        split
        · exact List.pairwise_cons.2 ⟨fun z hz => by rw [← heq]; exact h1 z hz, h2⟩
        · exact h
      · rename_i hne
        have hxy : x.n < y.n := by
          rcases by_tri y.n x.n with h3 | h3 | h3
          · exact absurd h3 hlt
          · exact absurd h3 hne
          · exact h3
        refine List.pairwise_cons.2 ⟨fun z hz => ?_, h⟩
        rcases List.mem_cons.1 hz with rfl | hz
        · exact hxy
        · exact by_lt_trans hxy (h1 z hz)
theorem ins_best : ∀ (m : List Stp) (x y : Stp), (y = x ∨ ∃ z ∈ m, z.n = y.n ∧ ¬ bt y z) → ∃ z ∈ ins m x, z.n = y.n ∧ ¬ bt y z
  | [], x, y, h => by
    rcases h with rfl | ⟨z, hz, _⟩
    · exact ⟨y, by simp [ins], rfl, bt_irrefl y⟩
    · cases hz
  | a :: r, x, y, h => by
    unfold ins
    split
    · rename_i hlt
      rcases h with rfl | ⟨z, hz, e, b⟩
      · obtain ⟨w, hw, e, b⟩ := ins_best r y y (.inl rfl)
        exact ⟨w, List.mem_cons_of_mem _ hw, e, b⟩
      · rcases List.mem_cons.1 hz with rfl | hz
        · exact ⟨z, List.mem_cons_self .., e, b⟩
        · obtain ⟨w, hw, e, b⟩ := ins_best r x y (.inr ⟨z, hz, e, b⟩)
          exact ⟨w, List.mem_cons_of_mem _ hw, e, b⟩
    · split
      · rename_i heq
        split
        · rename_i hb
          rcases h with rfl | ⟨z, hz, e, b⟩
          · exact ⟨y, List.mem_cons_self .., rfl, bt_irrefl y⟩
          · rcases List.mem_cons.1 hz with rfl | hz
            · refine ⟨x, List.mem_cons_self .., heq.symm.trans e, not_bt_trans heq.symm e ?_ b⟩
              intro h3
              exact bt_irrefl x (bt_trans (show bt x z from hb) h3)
            · exact ⟨z, List.mem_cons_of_mem _ hz, e, b⟩
        · rename_i hb
          rcases h with rfl | ⟨z, hz, e, b⟩
          · exact ⟨a, List.mem_cons_self .., heq, hb⟩
          · exact ⟨z, hz, e, b⟩
      · rcases h with rfl | ⟨z, hz, e, b⟩
        · exact ⟨y, List.mem_cons_self .., rfl, bt_irrefl y⟩
        · exact ⟨z, List.mem_cons_of_mem _ hz, e, b⟩
theorem ins_merge {l m : List Stp} (h : IsMerge l m) (x : Stp) : IsMerge (l ++ [x]) (ins m x) := by
  refine ⟨ins_srt m x h.srt, fun z hz => ?_, fun y hy => ?_⟩
  · rcases ins_mem m x z hz with rfl | hz
    · simp
    · exact List.mem_append_left _ (h.from_ z hz)
  · refine ins_best m x y ?_
    rcases List.mem_append.1 hy with hy | hy
    · exact .inr (h.best y hy)
    · exact .inl (List.mem_singleton.1 hy)
theorem fold_merge (l : List Stp) : IsMerge l (l.foldl ins []) := by
  have key : ∀ (l p m : List Stp), IsMerge p m → IsMerge (p ++ l) (l.foldl ins m) := by
    intro l
    induction l with
    | nil => intro p m h; simpa using h
    | cons x l ih =>
      intro p m h
      have h1 := ih (p ++ [x]) (ins m x) (ins_merge h x)
      simpa using h1
  have h := key l [] [] ⟨List.Pairwise.nil, fun x hx => hx, fun y hy => by cases hy⟩
  simpa using h
/-! ### sorted, then the first of each name -/
/-- Sorted as refs.Merge sorts: by names, the better one first. -/
def leS (a b : Stp) : Prop := a.n < b.n ∨ (a.n = b.n ∧ ¬ bt b a)
/-- What CompactFunc leaves: the first of a run of one name. -/
def firsts : Option By → List Stp → List Stp
  | _, [] => []
  | p, x :: r => if p = some x.n then firsts (some x.n) r else x :: firsts (some x.n) r
theorem firsts_mem : ∀ (p : Option By) (s : List Stp) (x : Stp), x ∈ firsts p s → x ∈ s
  | _, [], x, h => h
  | p, y :: r, x, h => by
    unfold firsts at h
    split at h
    · exact List.mem_cons_of_mem _ (firsts_mem _ r x h)
    · rcases List.mem_cons.1 h with rfl | h
      · exact List.mem_cons_self ..
      · exact List.mem_cons_of_mem _ (firsts_mem _ r x h)
theorem firsts_gt : ∀ (q : By) (s : List Stp), s.Pairwise leS → (∀ x ∈ s, ¬ x.n < q) → ∀ x ∈ firsts (some q) s, q < x.n
  | _, [], _, _, x, h => by cases h
  | q, y :: r, hs, hq, x, h => by
    obtain ⟨h1, h2⟩ := List.pairwise_cons.1 hs
    unfold firsts at h
    split at h
    · rename_i e
      have e' : q = y.n := by injection e
      rw [← e'] at h
      exact firsts_gt q r h2 (fun z hz => hq z (List.mem_cons_of_mem _ hz)) x h
    · rename_i e
      have hqy : q < y.n := by
        rcases by_tri q y.n with h3 | h3 | h3
        · exact h3
        · exact absurd (by rw [h3]) e
        · exact absurd h3 (hq y (List.mem_cons_self ..))
      rcases List.mem_cons.1 h with rfl | h
      · exact hqy
      · have h4 := firsts_gt y.n r h2 (fun z hz => by
          rcases h1 z hz with h5 | ⟨h5, _⟩
          · exact fun h6 => by_lt_irrefl _ (by_lt_trans h5 h6)
          · rw [h5]; exact by_lt_irrefl _) x h
        exact by_lt_trans hqy h4
theorem firsts_srt : ∀ (p : Option By) (s : List Stp), s.Pairwise leS → (firsts p s).Pairwise (fun x y => x.n < y.n)
  | _, [], _ => List.Pairwise.nil
  | p, y :: r, hs => by
    obtain ⟨h1, h2⟩ := List.pairwise_cons.1 hs
    unfold firsts
    split
    · exact firsts_srt _ r h2
    · refine List.pairwise_cons.2 ⟨fun x hx => ?_, firsts_srt _ r h2⟩
      exact firsts_gt y.n r h2 (fun z hz => by
        rcases h1 z hz with h5 | ⟨h5, _⟩
        · exact fun h6 => by_lt_irrefl _ (by_lt_trans h5 h6)
        · rw [h5]; exact by_lt_irrefl _) x hx
theorem firsts_best : ∀ (p : Option By) (s : List Stp), s.Pairwise leS → ∀ y ∈ s, p = some y.n ∨ ∃ x ∈ firsts p s, x.n = y.n ∧ ¬ bt y x
  | _, [], _, y, h => by cases h
  | p, a :: r, hs, y, h => by
    obtain ⟨h1, h2⟩ := List.pairwise_cons.1 hs
    unfold firsts
    split
    · rename_i e
      rcases List.mem_cons.1 h with rfl | h
      · exact .inl e
      · rcases firsts_best (some a.n) r h2 y h with h3 | h3
        · exact .inl (e.trans h3)
        · exact .inr h3
    · right
      rcases List.mem_cons.1 h with rfl | h
      · exact ⟨y, List.mem_cons_self .., rfl, bt_irrefl y⟩
      · rcases firsts_best (some a.n) r h2 y h with h3 | ⟨x, hx, e, b⟩
        · have h3' : a.n = y.n := by injection h3
          refine ⟨a, List.mem_cons_self .., h3', ?_⟩
          rcases h1 y h with h5 | ⟨_, h5⟩
          · rw [h3'] at h5; exact absurd h5 (by_lt_irrefl _)
          · exact h5
        · exact ⟨x, List.mem_cons_of_mem _ hx, e, b⟩
theorem sorted_merge {l s : List Stp} (hp : s.Perm l) (hs : s.Pairwise leS) : IsMerge l (firsts none s) := by
  refine ⟨firsts_srt none s hs, fun x hx => hp.mem_iff.1 (firsts_mem none s x hx), fun y hy => ?_⟩
  rcases firsts_best none s hs y (hp.mem_iff.2 hy) with h | h
  · cases h
  · exact h
end Go.Proofs.Ytkjaffnplehhaaa.Rg
