/-
  The list of clusters, plain: its heads, its members; what is left without one cluster; degrees.
-/
import Derived.Test.YtbmlfejlmedmgaaGP2
namespace Go.Proofs.Ytbmlfejlmedmgaa
namespace RW
theorem fsts_sub (k : Int → Nd) (A : List Int) : (fsts k A).Sublist A := by
  refine snoc_ind (P := fun A => (fsts k A).Sublist A) (List.Sublist.refl _) ?_ A
  intro A x ih
  rw [fsts_snoc]
  unfold fadd
  split
  · exact ih.trans (List.sublist_append_left _ _)
  · exact ih.append (List.Sublist.refl _)
theorem fadd_mem (k : Int → Nd) (F : List Int) (x a : Int) (h : a ∈ fadd k F x) : a ∈ F ∨ (a = x ∧ ∀ b ∈ F, k b ≠ k x) := by
  unfold fadd at h
  split at h
  · exact .inl h
  · rename_i hn
    rw [List.mem_append, List.mem_singleton] at h
    refine h.imp id fun e => ⟨e, fun b hb hk => hn (List.any_eq_true.2 ⟨b, hb, by simpa using hk⟩)⟩
/-- a group begins with its first number -/
theorem gpk_head (k : Int → Nd) (A : List Int) : ∀ a ∈ fsts k A, ∃ r, gpk k A a = a :: r := by
  refine snoc_ind (P := fun A => ∀ a ∈ fsts k A, ∃ r, gpk k A a = a :: r) (fun a ha => by simp [fsts] at ha) ?_ A
  intro A x ih a ha
  rw [fsts_snoc] at ha
  rw [gpk_snoc]
  rcases fadd_mem k _ x a ha with ha | ⟨rfl, hn⟩
  · obtain ⟨r, hr⟩ := ih a ha
    rw [hr]
    exact ⟨_, rfl⟩
  · have hg : gpk k A a = [] := by
      unfold gpk
      rw [List.filter_eq_nil_iff]
      intro y hy hq
      obtain ⟨b, hb, he⟩ := (gst_eq k A).2.1 y hy
      exact hn b hb (he.trans (by simpa using hq))
    rw [hg, if_pos rfl]
    exact ⟨[], rfl⟩
theorem mem_gpk {k : Int → Nd} {A : List Int} {a y : Int} : y ∈ gpk k A a ↔ y ∈ A ∧ k y = k a := by
  unfold gpk
  rw [List.mem_filter, decide_eq_true_eq]
theorem gpk_up {k : Int → Nd} {A : List Int} (h : A.Pairwise (· < ·)) (a : Int) : (gpk k A a).Pairwise (· < ·) := h.filter _
/-- a part of the list that a key's numbers wholly belong to, or not at all -/
theorem fsts_filter (k : Int → Nd) (p : Int → Bool) (hp : ∀ x y, k x = k y → p x = p y) (A : List Int) : fsts k (A.filter p) = (fsts k A).filter p := by
  refine snoc_ind (P := fun A => fsts k (A.filter p) = (fsts k A).filter p) rfl ?_ A
  intro A x ih
  rw [List.filter_append, fsts_snoc]
  have hany : p x = true → ((fsts k A).filter p).any (fun a => decide (k a = k x)) = (fsts k A).any (fun a => decide (k a = k x)) := fun hx => by
    rw [Bool.eq_iff_iff, List.any_eq_true, List.any_eq_true]
    constructor
    · rintro ⟨b, hb, hq⟩
      exact ⟨b, (List.mem_filter.1 hb).1, hq⟩
    · rintro ⟨b, hb, hq⟩
      exact ⟨b, List.mem_filter.2 ⟨hb, (hp b x (by simpa using hq)).trans hx⟩, hq⟩
  cases hx : p x with
  | true =>
    rw [List.filter_cons, hx, if_pos rfl, List.filter_nil, fsts_snoc, ih]
    unfold fadd
    rw [hany hx]
    split
    · rfl
    · rw [List.filter_append, List.filter_cons, hx, if_pos rfl, List.filter_nil]
  | false =>
    rw [List.filter_cons, hx, if_neg Bool.false_ne_true, List.filter_nil, List.append_nil, ih]
    unfold fadd
    split
    · rfl
    · rw [List.filter_append, List.filter_cons, hx, if_neg Bool.false_ne_true, List.filter_nil, List.append_nil]
theorem gpk_filter (k : Int → Nd) (p : Int → Bool) (hp : ∀ x y, k x = k y → p x = p y) (A : List Int) (a : Int) (ha : p a = true) : gpk k (A.filter p) a = gpk k A a := by
  unfold gpk
  rw [List.filter_filter]
  apply List.filter_congr
  intro x hx
  by_cases h : k x = k a
  · rw [decide_eq_true h, hp x a h, ha]; rfl
  · rw [decide_eq_false h]; rfl
/-! what GraphDevices reckons -/
def inC (l : List Ed) (x : Int) (e : Ed) : Bool := (cAcc l x).contains e.1
theorem mem_accs {l : List Ed} {a : Int} : a ∈ accs l ↔ ∃ e ∈ l, e.1 = a := by
  unfold accs
  rw [mem_asc, List.mem_map]
theorem mem_devs {l : List Ed} {d : Int} : d ∈ devs l ↔ ∃ e ∈ l, e.2 = d := by
  unfold devs
  rw [mem_asc, List.mem_map]
theorem mem_cAcc {l : List Ed} {x a : Int} : a ∈ cAcc l x ↔ x ∈ accs l ∧ a ∈ accs l ∧ rOf l (false, a) = rOf l (false, x) := by
  unfold cAcc
  by_cases h : (accs l).contains x = true
  · rw [if_pos h, List.mem_filter, decide_eq_true_eq]
    have := List.contains_iff_mem.1 h
    exact ⟨fun h => ⟨this, h.1, h.2⟩, fun h => h.2⟩
  · rw [if_neg h]
    refine ⟨fun h => (by cases h), fun q => absurd (List.contains_iff_mem.2 q.1) h⟩
theorem mem_cDev {l : List Ed} {x d : Int} : d ∈ cDev l x ↔ x ∈ accs l ∧ d ∈ devs l ∧ rOf l (true, d) = rOf l (false, x) := by
  unfold cDev
  by_cases h : (accs l).contains x = true
  · rw [if_pos h, List.mem_filter, decide_eq_true_eq]
    have := List.contains_iff_mem.1 h
    exact ⟨fun h => ⟨this, h.1, h.2⟩, fun h => h.2⟩
  · rw [if_neg h]
    refine ⟨fun h => (by cases h), fun q => absurd (List.contains_iff_mem.2 q.1) h⟩
theorem in_both (l : List Ed) (x : Int) (e : Ed) (he : e ∈ l) : (cAcc l x).contains e.1 = (cDev l x).contains e.2 := by
  rw [Bool.eq_iff_iff, List.contains_iff_mem, List.contains_iff_mem, mem_cAcc, mem_cDev, edge_conn l e he]
  exact ⟨fun h => ⟨h.1, mem_devs.2 ⟨e, he, rfl⟩, h.2.2⟩, fun h => ⟨h.1, mem_accs.2 ⟨e, he, rfl⟩, h.2.2⟩⟩
def restL (l : List Ed) (x : Int) : List Ed := l.filter fun e => !inC l x e
theorem cn_rest (l : List Ed) (x : Int) (hx : x ∈ accs l) {u v : Nd} (c : Cn l u v) : rOf l u ≠ rOf l (false, x) → Cn (restL l x) u v := by
  induction c with
  | refl u => exact fun _ => .refl u
  | edge e he =>
    intro h
    refine .edge e (List.mem_filter.2 ⟨he, ?_⟩)
    have : ¬ (cAcc l x).contains e.1 = true := fun q => h (mem_cAcc.1 (List.contains_iff_mem.1 q)).2.2
    unfold inC
    simpa using this
  | symm c ih => exact fun h => .symm (ih fun q => h (((conn_iff l _ _).2 c).symm.trans q))
  | trans c1 c2 ih1 ih2 => exact fun h => .trans (ih1 h) (ih2 fun q => h (((conn_iff l _ _).2 c1).trans q))
def wantL (l : List Ed) (x : Int) : List (List Int) := (cls l).filter fun c => !(cAcc l x).contains (c.headD 0)
theorem rest_none (l : List Ed) (x : Int) (hx : x ∉ accs l) : restL l x = l ∧ wantL l x = cls l := by
  have h0 : cAcc l x = [] := by
    unfold cAcc
    rw [if_neg fun h => hx (List.contains_iff_mem.1 h)]
  constructor
  · unfold restL inC
    rw [h0]
    exact List.filter_eq_self.2 fun _ _ => rfl
  · unfold wantL
    rw [h0]
    exact List.filter_eq_self.2 fun _ _ => rfl
theorem cls_rest (l : List Ed) (x : Int) : cls (restL l x) = wantL l x := by
  by_cases hx : x ∈ accs l
  · obtain ⟨p, hpd⟩ : ∃ p : Int → Bool, p = fun a => !decide (rOf l (false, a) = rOf l (false, x)) := ⟨_, rfl⟩
    have hpt : ∀ a, p a = true ↔ rOf l (false, a) ≠ rOf l (false, x) := fun a => by rw [hpd]; simp
    have hA : accs (restL l x) = (accs l).filter p := by
      refine asc_eq (asc_up _) ((asc_up _).filter _) fun a => ?_
      show a ∈ accs _ ↔ _
      rw [mem_accs, List.mem_filter, mem_accs, hpt]
      constructor
      · rintro ⟨e, he, rfl⟩
        obtain ⟨h1, h2⟩ := List.mem_filter.1 he
        refine ⟨⟨e, h1, rfl⟩, fun q => ?_⟩
        have : (cAcc l x).contains e.1 = true := List.contains_iff_mem.2 (mem_cAcc.2 ⟨hx, mem_accs.2 ⟨e, h1, rfl⟩, q⟩)
        unfold inC at h2
        rw [this] at h2
        cases h2
      · rintro ⟨⟨e, he, rfl⟩, h2⟩
        refine ⟨e, List.mem_filter.2 ⟨he, ?_⟩, rfl⟩
        have : ¬ (cAcc l x).contains e.1 = true := fun q => h2 (mem_cAcc.1 (List.contains_iff_mem.1 q)).2.2
        unfold inC
        simpa using this
    have hsub : ∀ e ∈ restL l x, e ∈ l := fun e he => (List.mem_filter.1 he).1
    have hk : ∀ a b, rOf l (false, a) ≠ rOf l (false, x) → (rOf (restL l x) (false, a) = rOf (restL l x) (false, b) ↔ rOf l (false, a) = rOf l (false, b)) := fun a b ha => by
      rw [conn_iff, conn_iff]
      exact ⟨fun c => c.mono hsub, fun c => cn_rest l x hx c ha⟩
    have hp : ∀ a b, rOf l (false, a) = rOf l (false, b) → p a = p b := fun a b h => by rw [hpd]; show (!decide _) = (!decide _); rw [h]
    have hF : ∀ A : List Int, (∀ a ∈ A, p a = true) → fsts (fun a => rOf (restL l x) (false, a)) A = fsts (fun a => rOf l (false, a)) A := by
      intro A
      refine snoc_ind (P := fun A => (∀ a ∈ A, p a = true) → fsts (fun a => rOf (restL l x) (false, a)) A = fsts (fun a => rOf l (false, a)) A) (fun _ => rfl) ?_ A
      intro A y ih hAy
      have ih' := ih fun a ha => hAy a (List.mem_append.2 (.inl ha))
      rw [fsts_snoc, fsts_snoc, ih']
      unfold fadd
      have hy := (hpt y).1 (hAy y (by simp))
      have hfun : (fun a => decide (rOf (restL l x) (false, a) = rOf (restL l x) (false, y))) = (fun a => decide (rOf l (false, a) = rOf l (false, y))) := by
        funext a
        exact decide_eq_decide.2 ⟨fun h => ((hk y a hy).1 h.symm).symm, fun h => ((hk y a hy).2 h.symm).symm⟩
      rw [hfun]
    have hG : ∀ (A : List Int) a, p a = true → gpk (fun a => rOf (restL l x) (false, a)) A a = gpk (fun a => rOf l (false, a)) A a := fun A a ha => by
      unfold gpk
      congr 1
      funext y
      exact decide_eq_decide.2 ⟨fun h => ((hk a y ((hpt a).1 ha)).1 h.symm).symm, fun h => ((hk a y ((hpt a).1 ha)).2 h.symm).symm⟩
    rw [cls_eq, hA, hF _ (fun a ha => (List.mem_filter.1 ha).2), fsts_filter _ p hp]
    unfold wantL
    rw [cls_eq, List.filter_map]
    have hfc : (fsts (fun a => rOf l (false, a)) (accs l)).filter p = (fsts (fun a => rOf l (false, a)) (accs l)).filter ((fun c => !(cAcc l x).contains (c.headD 0)) ∘ gpk (fun a => rOf l (false, a)) (accs l)) := by
      apply List.filter_congr
      intro a ha
      obtain ⟨r, hr⟩ := gpk_head _ _ a ha
      have haA := (fsts_sub _ _).subset ha
      show p a = !(cAcc l x).contains ((gpk _ _ a).headD 0)
      rw [hr, List.headD_cons, Bool.eq_iff_iff, hpt]
      have hc : (cAcc l x).contains a = true ↔ rOf l (false, a) = rOf l (false, x) := by
        rw [List.contains_iff_mem, mem_cAcc]
        exact ⟨fun h => h.2.2, fun h => ⟨hx, haA, h⟩⟩
      constructor
      · intro h
        have : ¬ (cAcc l x).contains a = true := fun q => h (hc.1 q)
        simpa using this
      · intro h q
        rw [hc.2 q] at h
        cases h
    rw [← hfc]
    apply List.map_congr_left
    intro a ha
    have hpa := (List.mem_filter.1 ha).2
    rw [hG _ a hpa, gpk_filter _ p hp _ a hpa]
  · obtain ⟨h1, h2⟩ := rest_none l x hx
    rw [h1, h2]
/-- how many of the accounts have an edge to the device -/
def cntD (l : List Ed) (x d : Int) : Nat := ((cAcc l x).filter fun a => l.contains (a, d)).length
theorem degree_cnt (l : List Ed) (x d : Int) (hd : d ∈ cDev l x) : dgr l d = cntD l x d ∧ cntD l x d ≠ 0 := by
  obtain ⟨hx, hd1, hd2⟩ := mem_cDev.1 hd
  have hup : (cAcc l x).Pairwise (· < ·) := by
    unfold cAcc
    split
    · exact (asc_up _).filter _
    · exact List.Pairwise.nil
  have he : asc ((l.filter fun e => decide (e.2 = d)).map (·.1)) = (cAcc l x).filter fun a => l.contains (a, d) := by
    refine asc_eq (asc_up _) (hup.filter _) fun a => ?_
    rw [mem_asc, List.mem_map, List.mem_filter, List.contains_iff_mem]
    constructor
    · rintro ⟨e, he, rfl⟩
      obtain ⟨h1, h2⟩ := List.mem_filter.1 he
      have h2 : e.2 = d := by simpa using h2
      refine ⟨mem_cAcc.2 ⟨hx, mem_accs.2 ⟨e, h1, rfl⟩, ?_⟩, ?_⟩
      · rw [edge_conn l e h1, h2, hd2]
      · rw [← h2]; exact h1
    · rintro ⟨_, h2⟩
      exact ⟨(a, d), List.mem_filter.2 ⟨h2, by simp⟩, rfl⟩
  have h1 : dgr l d = cntD l x d := by
    unfold dgr cntD
    rw [he]
  refine ⟨h1, fun h => ?_⟩
  obtain ⟨e, hel, hed⟩ := mem_devs.1 hd1
  have : e.1 ∈ (cAcc l x).filter fun a => l.contains (a, d) := by
    rw [← he, mem_asc, List.mem_map]
    exact ⟨e, List.mem_filter.2 ⟨hel, by simpa using hed⟩, rfl⟩
  unfold cntD at h
  rw [List.length_eq_zero_iff.1 h] at this
  cases this
end RW
end Go.Proofs.Ytbmlfejlmedmgaa
