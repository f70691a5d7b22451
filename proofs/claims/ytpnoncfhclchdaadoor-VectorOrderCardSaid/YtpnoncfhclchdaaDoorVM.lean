/- VECTOR, plain law: what the merged vectors are, with no program in sight. -/
import Derived.Test.YtpnoncfhclchdaaDoorV8
namespace Go.Vec
open Go Go.Am

/-- A valid vector. -/
structure Ok (v : List D) : Prop where
  dots : ∀ d ∈ v, isDotB d = true
  sorted : v.Pairwise fun p q => p.1 < q.1

theorem isDot_iff {d : D} : isDotB d = true ↔ 0 ≤ d.1 ∧ d.1 < 512 ∧ 1 ≤ d.2 ∧ d.2 ≤ 1048576 := by
  simp only [isDotB, Bool.and_eq_true, decide_eq_true_eq]
  omega

theorem okN_iff {v : List D} : ∀ n k, k + n = v.length → (okN v n k = true ↔ (∀ j, k ≤ j → ∀ x, v[j]? = some x → isDotB x = true ∧ (j = 0 ∨ ∃ y, v[j - 1]? = some y ∧ y.1 < x.1)))
  | 0, k, h => by
    simp only [okN, true_iff]
    intro j hj x hx
    rw [List.getElem?_eq_none (by omega)] at hx
    cases hx
  | n + 1, k, h => by
    have ih := okN_iff (v := v) n (k + 1) (by omega)
    have hlt : k < v.length := by omega
    simp only [okN, Bool.and_eq_true]
    rw [ih]
    have hx : v[k]? = some v[k] := List.getElem?_eq_getElem hlt
    have hat : okAt v k = true ↔ (isDotB v[k] = true ∧ (k = 0 ∨ ∃ y, v[k - 1]? = some y ∧ y.1 < v[k].1)) := by
      simp only [okAt, hx, Bool.and_eq_true, Bool.or_eq_true, beq_iff_eq]
      refine and_congr_right fun _ => or_congr_right ?_
      cases hy : v[k - 1]? with
      | none => simp
      | some y => simp
    rw [hat]
    constructor
    · rintro ⟨h1, h2⟩ j hj x hjx
      rcases Nat.lt_or_eq_of_le hj with hj | rfl
      · exact h2 j hj x hjx
      · rw [hx] at hjx; cases hjx; exact h1
    · intro h'
      exact ⟨h' k (Nat.le_refl _) _ hx, fun j hj => h' j (by omega)⟩

theorem ok_iff {v : List D} : okB v = true ↔ Ok v := by
  unfold okB
  rw [okN_iff v.length 0 (by omega)]
  constructor
  · intro h
    refine ⟨fun d hd => ?_, ?_⟩
    · obtain ⟨j, hj⟩ := List.mem_iff_getElem?.1 hd
      exact (h j (Nat.zero_le _) d hj).1
    · rw [List.pairwise_iff_getElem]
      have step : ∀ j (h1 : j + 1 < v.length), (v[j]'(by omega)).1 < v[j + 1].1 := fun j h1 => by
        rcases (h (j + 1) (Nat.zero_le _) _ (List.getElem?_eq_getElem h1)).2 with h0 | ⟨y, hy, hlt⟩
        · omega
        · rw [Nat.add_sub_cancel, List.getElem?_eq_getElem (by omega)] at hy
          have hy' := Option.some.inj hy
          rw [← hy'] at hlt
          exact hlt
      have all : ∀ m i (h1 : i + m + 1 < v.length), (v[i]'(by omega)).1 < (v[i + m + 1]).1 := by
        intro m
        induction m with
        | zero => intro i h1; exact step i h1
        | succ m ih => intro i h1; exact Int.lt_trans (ih i (by omega)) (step (i + m + 1) (by omega))
      intro i j hi hj hij
      have := all (j - i - 1) i (by omega)
      have e : i + (j - i - 1) + 1 = j := by omega
      simpa only [e] using this
  · intro h j _ x hx
    refine ⟨h.dots x (List.mem_of_getElem? hx), ?_⟩
    by_cases h0 : j = 0
    · exact .inl h0
    · right
      obtain ⟨h1, h2⟩ := List.getElem?_eq_some_iff.1 hx
      refine ⟨v[j - 1]'(by omega), List.getElem?_eq_getElem (by omega), ?_⟩
      have := (List.pairwise_iff_getElem.1 h.sorted) (j - 1) j (by omega) h1 (by omega)
      rw [h2] at this
      exact this

theorem Ok.tail {d : D} {v : List D} (h : Ok (d :: v)) : Ok v := ⟨fun x hx => h.dots x (List.mem_cons_of_mem _ hx), (List.pairwise_cons.1 h.sorted).2⟩
theorem Ok.lt {d : D} {v : List D} (h : Ok (d :: v)) : ∀ x ∈ v, d.1 < x.1 := (List.pairwise_cons.1 h.sorted).1
theorem Ok.nil : Ok [] := ⟨by simp, .nil⟩

theorem atV_ne {dev : Int} {d : D} {v : List D} (h : d.1 ≠ dev) : atV dev (d :: v) = atV dev v := if_neg h
theorem atV_not {dev : Int} : ∀ {v : List D}, (∀ d ∈ v, d.1 ≠ dev) → atV dev v = 0
  | [], _ => rfl
  | d :: v, h => by rw [atV, if_neg (h d (by simp))]; exact atV_not fun x hx => h x (List.mem_cons_of_mem _ hx)
theorem atV_mem {v : List D} (h : Ok v) : ∀ d ∈ v, atV d.1 v = d.2 := by
  induction v with
  | nil => simp
  | cons x v ih =>
    intro d hd
    rcases List.mem_cons.1 hd with rfl | hd
    · rw [atV, if_pos rfl]
    · rw [atV, if_neg (by have := h.lt d hd; omega)]
      exact ih h.tail d hd
theorem atV_pos {v : List D} (h : Ok v) {dev : Int} (hp : atV dev v ≠ 0) : ∃ d ∈ v, d.1 = dev ∧ d.2 = atV dev v := by
  by_cases hd : ∃ d ∈ v, d.1 = dev
  · obtain ⟨d, hd, rfl⟩ := hd
    exact ⟨d, hd, rfl, (atV_mem h d hd).symm⟩
  · exact absurd (atV_not fun d hm e => hd ⟨d, hm, e⟩) hp
theorem atV_range {v : List D} (h : Ok v) (dev : Int) : 0 ≤ atV dev v ∧ atV dev v ≤ 1048576 := by
  by_cases hp : atV dev v = 0
  · omega
  · obtain ⟨d, hd, _, he⟩ := atV_pos h hp
    have := isDot_iff.1 (h.dots d hd)
    omega
theorem mem_of_atV {v : List D} (h : Ok v) {dev : Int} (hp : atV dev v ≠ 0) : (dev, atV dev v) ∈ v := by
  obtain ⟨d, hd, h1, h2⟩ := atV_pos h hp
  have : d = (dev, atV dev v) := Prod.ext h1 h2
  exact this ▸ hd

/-- Vectors that say the same of every device are equal. -/
theorem ok_ext : ∀ {u v : List D}, Ok u → Ok v → (∀ dev, atV dev u = atV dev v) → u = v
  | [], [], _, _, _ => rfl
  | [], d :: v, _, h, e => by
    have := e d.1
    rw [atV_mem h d (by simp)] at this
    have := isDot_iff.1 (h.dots d (by simp))
    simp only [atV] at *
    omega
  | d :: u, [], h, _, e => by
    have := e d.1
    rw [atV_mem h d (by simp)] at this
    have := isDot_iff.1 (h.dots d (by simp))
    simp only [atV] at *
    omega
  | d :: u, c :: v, h, k, e => by
    have hd := isDot_iff.1 (h.dots d (by simp))
    have hc := isDot_iff.1 (k.dots c (by simp))
    have h1 : c.1 ≤ d.1 := by
      have e1 := e d.1
      rw [atV_mem h d (by simp)] at e1
      have : (d.1, atV d.1 (c :: v)) ∈ c :: v := mem_of_atV k (by omega)
      rcases List.mem_cons.1 this with h' | h'
      · have := congrArg Prod.fst h'; simp only at this; omega
      · have := k.lt _ h'; simp only at this; omega
    have h2 : d.1 ≤ c.1 := by
      have e1 := e c.1
      rw [atV_mem k c (by simp)] at e1
      have : (c.1, atV c.1 (d :: u)) ∈ d :: u := mem_of_atV h (by omega)
      rcases List.mem_cons.1 this with h' | h'
      · have := congrArg Prod.fst h'; simp only at this; omega
      · have := h.lt _ h'; simp only at this; omega
    have hdc : d = c := Prod.ext (by omega) (by
      have e1 := e d.1
      rw [atV_mem h d (by simp), show d.1 = c.1 by omega, atV_mem k c (by simp)] at e1
      exact e1)
    subst hdc
    rw [ok_ext h.tail k.tail fun dev => by
      by_cases hx : d.1 = dev
      · subst hx
        rw [atV_not fun x hx => by have := h.lt x hx; omega, atV_not fun x hx => by have := k.lt x hx; omega]
      · have := e dev
        rw [atV, if_neg hx, atV, if_neg hx] at this
        exact this]

/-! ### The pairs -/
theorem pr_spec : ∀ n (a b : List D), a.length + b.length ≤ n → Ok a → Ok b →
    (prN n a b).Pairwise (fun p q => p.1 < q.1) ∧ (∀ p ∈ prN n a b, (∃ q ∈ a, q.1 = p.1) ∨ (∃ q ∈ b, q.1 = p.1)) ∧ (∀ p ∈ prN n a b, p.2.1 = atV p.1 a ∧ p.2.2 = atV p.1 b) ∧
    (∀ q ∈ a, ∃ p ∈ prN n a b, p.1 = q.1) ∧ (∀ q ∈ b, ∃ p ∈ prN n a b, p.1 = q.1) := by
  intro n
  induction n with
  | zero =>
    intro a b hn ha hb
    have ea : a = [] := List.eq_nil_of_length_eq_zero (by omega)
    have eb : b = [] := List.eq_nil_of_length_eq_zero (by omega)
    subst ea eb
    simp [prN]
  | succ n ih =>
    intro a b hn ha hb
    match a, b, hn, ha, hb with
    | [], [], _, _, _ => simp [prN]
    | x :: a, [], hn, ha, hb =>
      obtain ⟨i1, i2, i3, i4, _⟩ := ih a [] (by simp at hn ⊢; omega) ha.tail hb
      have low : ∀ p ∈ prN n a [], x.1 < p.1 := fun p hp => by
        rcases i2 p hp with ⟨q, hq, e⟩ | ⟨q, hq, _⟩
        · have := ha.lt q hq; omega
        · cases hq
      simp only [prN]
      refine ⟨List.pairwise_cons.2 ⟨low, i1⟩, fun p hp => ?_, fun p hp => ?_, fun q hq => ?_, fun q hq => (by cases hq)⟩
      · rcases List.mem_cons.1 hp with rfl | hp
        · exact .inl ⟨x, by simp, rfl⟩
        · exact (i2 p hp).imp (fun ⟨q, h1, h2⟩ => ⟨q, List.mem_cons_of_mem _ h1, h2⟩) id
      · rcases List.mem_cons.1 hp with rfl | hp
        · exact ⟨by rw [atV_mem ha x (by simp)], rfl⟩
        · have hne : x.1 ≠ p.1 := by have := low p hp; omega
          rw [atV_ne hne]
          exact i3 p hp
      · rcases List.mem_cons.1 hq with rfl | hq
        · exact ⟨_, List.mem_cons_self, rfl⟩
        · obtain ⟨p, h1, h2⟩ := i4 q hq
          exact ⟨p, List.mem_cons_of_mem _ h1, h2⟩
    | [], y :: b, hn, ha, hb =>
      obtain ⟨i1, i2, i3, _, i5⟩ := ih [] b (by simp at hn ⊢; omega) ha hb.tail
      have low : ∀ p ∈ prN n [] b, y.1 < p.1 := fun p hp => by
        rcases i2 p hp with ⟨q, hq, _⟩ | ⟨q, hq, e⟩
        · cases hq
        · have := hb.lt q hq; omega
      simp only [prN]
      refine ⟨List.pairwise_cons.2 ⟨low, i1⟩, fun p hp => ?_, fun p hp => ?_, fun q hq => (by cases hq), fun q hq => ?_⟩
      · rcases List.mem_cons.1 hp with rfl | hp
        · exact .inr ⟨y, by simp, rfl⟩
        · exact (i2 p hp).imp id (fun ⟨q, h1, h2⟩ => ⟨q, List.mem_cons_of_mem _ h1, h2⟩)
      · rcases List.mem_cons.1 hp with rfl | hp
        · exact ⟨rfl, by rw [atV_mem hb y (by simp)]⟩
        · have hne : y.1 ≠ p.1 := by have := low p hp; omega
          refine ⟨(i3 p hp).1, ?_⟩
          rw [atV_ne hne]
          exact (i3 p hp).2
      · rcases List.mem_cons.1 hq with rfl | hq
        · exact ⟨_, List.mem_cons_self, rfl⟩
        · obtain ⟨p, h1, h2⟩ := i5 q hq
          exact ⟨p, List.mem_cons_of_mem _ h1, h2⟩
    | x :: a, y :: b, hn, ha, hb =>
      simp only [prN]
      by_cases h1 : x.1 < y.1
      · rw [if_pos h1]
        obtain ⟨i1, i2, i3, i4, i5⟩ := ih a (y :: b) (by simp at hn ⊢; omega) ha.tail hb
        have low : ∀ p ∈ prN n a (y :: b), x.1 < p.1 := fun p hp => by
          rcases i2 p hp with ⟨q, hq, e⟩ | ⟨q, hq, e⟩
          · have := ha.lt q hq; omega
          · rcases List.mem_cons.1 hq with rfl | hq
            · omega
            · have := hb.lt q hq; omega
        refine ⟨List.pairwise_cons.2 ⟨low, i1⟩, fun p hp => ?_, fun p hp => ?_, fun q hq => ?_, fun q hq => ?_⟩
        · rcases List.mem_cons.1 hp with rfl | hp
          · exact .inl ⟨x, by simp, rfl⟩
          · exact (i2 p hp).imp (fun ⟨q, h1, h2⟩ => ⟨q, List.mem_cons_of_mem _ h1, h2⟩) id
        · rcases List.mem_cons.1 hp with rfl | hp
          · refine ⟨by rw [atV_mem ha x (by simp)], ?_⟩
            rw [atV_not fun q hq => ?_]
            rcases List.mem_cons.1 hq with rfl | hq
            · simp only; omega
            · have := hb.lt q hq; simp only; omega
          · have hne : x.1 ≠ p.1 := by have := low p hp; omega
            refine ⟨?_, (i3 p hp).2⟩
            rw [atV_ne hne]
            exact (i3 p hp).1
        · rcases List.mem_cons.1 hq with rfl | hq
          · exact ⟨_, List.mem_cons_self, rfl⟩
          · obtain ⟨p, k1, k2⟩ := i4 q hq
            exact ⟨p, List.mem_cons_of_mem _ k1, k2⟩
        · obtain ⟨p, k1, k2⟩ := i5 q hq
          exact ⟨p, List.mem_cons_of_mem _ k1, k2⟩
      · rw [if_neg h1]
        by_cases h2 : y.1 < x.1
        · rw [if_pos h2]
          obtain ⟨i1, i2, i3, i4, i5⟩ := ih (x :: a) b (by simp at hn ⊢; omega) ha hb.tail
          have low : ∀ p ∈ prN n (x :: a) b, y.1 < p.1 := fun p hp => by
            rcases i2 p hp with ⟨q, hq, e⟩ | ⟨q, hq, e⟩
            · rcases List.mem_cons.1 hq with rfl | hq
              · omega
              · have := ha.lt q hq; omega
            · have := hb.lt q hq; omega
          refine ⟨List.pairwise_cons.2 ⟨low, i1⟩, fun p hp => ?_, fun p hp => ?_, fun q hq => ?_, fun q hq => ?_⟩
          · rcases List.mem_cons.1 hp with rfl | hp
            · exact .inr ⟨y, by simp, rfl⟩
            · exact (i2 p hp).imp id (fun ⟨q, h1, h2⟩ => ⟨q, List.mem_cons_of_mem _ h1, h2⟩)
          · rcases List.mem_cons.1 hp with rfl | hp
            · refine ⟨?_, by rw [atV_mem hb y (by simp)]⟩
              rw [atV_not fun q hq => ?_]
              rcases List.mem_cons.1 hq with rfl | hq
              · simp only; omega
              · have := ha.lt q hq; simp only; omega
            · have hne : y.1 ≠ p.1 := by have := low p hp; omega
              refine ⟨(i3 p hp).1, ?_⟩
              rw [atV_ne hne]
              exact (i3 p hp).2
          · obtain ⟨p, k1, k2⟩ := i4 q hq
            exact ⟨p, List.mem_cons_of_mem _ k1, k2⟩
          · rcases List.mem_cons.1 hq with rfl | hq
            · exact ⟨_, List.mem_cons_self, rfl⟩
            · obtain ⟨p, k1, k2⟩ := i5 q hq
              exact ⟨p, List.mem_cons_of_mem _ k1, k2⟩
        · rw [if_neg h2]
          have hxy : x.1 = y.1 := by omega
          obtain ⟨i1, i2, i3, i4, i5⟩ := ih a b (by simp at hn ⊢; omega) ha.tail hb.tail
          have low : ∀ p ∈ prN n a b, x.1 < p.1 := fun p hp => by
            rcases i2 p hp with ⟨q, hq, e⟩ | ⟨q, hq, e⟩
            · have := ha.lt q hq; omega
            · have := hb.lt q hq; omega
          refine ⟨List.pairwise_cons.2 ⟨low, i1⟩, fun p hp => ?_, fun p hp => ?_, fun q hq => ?_, fun q hq => ?_⟩
          · rcases List.mem_cons.1 hp with rfl | hp
            · exact .inl ⟨x, by simp, rfl⟩
            · exact (i2 p hp).imp (fun ⟨q, h1, h2⟩ => ⟨q, List.mem_cons_of_mem _ h1, h2⟩) (fun ⟨q, h1, h2⟩ => ⟨q, List.mem_cons_of_mem _ h1, h2⟩)
          · rcases List.mem_cons.1 hp with rfl | hp
            · refine ⟨by rw [atV_mem ha x (by simp)], ?_⟩
              simp only
              rw [hxy, atV_mem hb y (by simp)]
            · have hne : x.1 ≠ p.1 := by have := low p hp; omega
              have hne2 : y.1 ≠ p.1 := by have := low p hp; omega
              rw [atV_ne hne, atV_ne hne2]
              exact i3 p hp
          · rcases List.mem_cons.1 hq with rfl | hq
            · exact ⟨_, List.mem_cons_self, rfl⟩
            · obtain ⟨p, k1, k2⟩ := i4 q hq
              exact ⟨p, List.mem_cons_of_mem _ k1, k2⟩
          · rcases List.mem_cons.1 hq with rfl | hq
            · exact ⟨_, List.mem_cons_self, hxy⟩
            · obtain ⟨p, k1, k2⟩ := i5 q hq
              exact ⟨p, List.mem_cons_of_mem _ k1, k2⟩

theorem dev_pr : ∀ n (a b : List D), devN n a b = (prN n a b).map (·.1)
  | 0, _, _ => rfl
  | _ + 1, [], [] => rfl
  | n + 1, x :: a, [] => by simp only [devN, prN, List.map_cons, dev_pr n a []]
  | n + 1, [], y :: b => by simp only [devN, prN, List.map_cons, dev_pr n [] b]
  | n + 1, x :: a, y :: b => by
    simp only [devN, prN]
    by_cases h1 : x.1 < y.1
    · have h2 : ¬ y.1 < x.1 := by omega
      simp only [if_pos h1, if_neg h2, List.map_cons, dev_pr n a (y :: b)]
    · by_cases h2 : y.1 < x.1
      · simp only [if_neg h1, if_pos h2, List.map_cons, dev_pr n (x :: a) b]
      · simp only [if_neg h1, if_neg h2, List.map_cons, dev_pr n a b]

/-! ### Merging by a rule -/
/-- A rule that serves: between 0 and the greater, 0 at two zeros. -/
structure Rule (tk : Int → Int → Int) : Prop where
  zero : tk 0 0 = 0
  lo : ∀ x y, 0 ≤ x → 0 ≤ y → 0 ≤ tk x y
  hi : ∀ x y, x ≤ 1048576 → y ≤ 1048576 → tk x y ≤ 1048576
theorem rule_max : Rule gmax := ⟨rfl, fun x y _ _ => by unfold gmax; split <;> omega, fun x y _ _ => by unfold gmax; split <;> omega⟩
theorem rule_min : Rule gmin := ⟨rfl, fun x y _ _ => by unfold gmin; split <;> omega, fun x y _ _ => by unfold gmin; split <;> omega⟩

theorem merge_mem {tk : Int → Int → Int} {a b : List D} (ha : Ok a) (hb : Ok b) {d : D} (h : d ∈ mergeV tk a b) :
    d.2 = tk (atV d.1 a) (atV d.1 b) ∧ d.2 > 0 ∧ ((∃ q ∈ a, q.1 = d.1) ∨ (∃ q ∈ b, q.1 = d.1)) := by
  obtain ⟨p, hp, he⟩ := List.mem_filterMap.1 h
  obtain ⟨_, i2, i3, _, _⟩ := pr_spec _ a b (Nat.le_refl _) ha hb
  unfold ruleF at he
  split at he
  · rename_i hpos
    cases he
    obtain ⟨e1, e2⟩ := i3 p hp
    exact ⟨by rw [e1, e2], hpos, i2 p hp⟩
  · cases he
theorem merge_sorted {tk : Int → Int → Int} {a b : List D} (ha : Ok a) (hb : Ok b) : (mergeV tk a b).Pairwise fun p q => p.1 < q.1 := by
  obtain ⟨i1, _⟩ := pr_spec _ a b (Nat.le_refl _) ha hb
  unfold mergeV
  rw [List.pairwise_filterMap]
  refine i1.imp ?_
  intro p q hpq d hd c hc
  unfold ruleF at hd hc
  split at hd <;> split at hc
  · cases hd; cases hc; exact hpq
  all_goals first | (cases hc; done) | (cases hd; done)
theorem merge_ok {tk : Int → Int → Int} (hr : Rule tk) {a b : List D} (ha : Ok a) (hb : Ok b) : Ok (mergeV tk a b) := by
  refine ⟨fun d hd => ?_, merge_sorted ha hb⟩
  obtain ⟨h1, h2, h3⟩ := merge_mem ha hb hd
  rw [isDot_iff]
  have r1 := atV_range ha d.1
  have r2 := atV_range hb d.1
  have := hr.hi _ _ r1.2 r2.2
  rcases h3 with ⟨q, hq, e⟩ | ⟨q, hq, e⟩
  · have := isDot_iff.1 (ha.dots q hq); omega
  · have := isDot_iff.1 (hb.dots q hq); omega
theorem merge_at {tk : Int → Int → Int} (hr : Rule tk) {a b : List D} (ha : Ok a) (hb : Ok b) (dev : Int) : atV dev (mergeV tk a b) = tk (atV dev a) (atV dev b) := by
  obtain ⟨_, i2, i3, i4, i5⟩ := pr_spec _ a b (Nat.le_refl _) ha hb
  have r1 := atV_range ha dev
  have r2 := atV_range hb dev
  by_cases hin : (∃ q ∈ a, q.1 = dev) ∨ (∃ q ∈ b, q.1 = dev)
  · obtain ⟨p, hp, hpd⟩ : ∃ p ∈ prN (a.length + b.length) a b, p.1 = dev := by
      rcases hin with ⟨q, hq, rfl⟩ | ⟨q, hq, rfl⟩
      · exact i4 q hq
      · exact i5 q hq
    subst hpd
    obtain ⟨e1, e2⟩ := i3 p hp
    by_cases hpos : tk p.2.1 p.2.2 > 0
    · have hm : (p.1, tk p.2.1 p.2.2) ∈ mergeV tk a b := List.mem_filterMap.2 ⟨p, hp, if_pos hpos⟩
      rw [atV_mem (merge_ok hr ha hb) _ hm, ← e1, ← e2]
    · have h0 := hr.lo _ _ r1.1 r2.1
      rw [← e1, ← e2] at h0 ⊢
      have hz : tk p.2.1 p.2.2 = 0 := by omega
      rw [hz]
      refine atV_not fun d hd e => ?_
      obtain ⟨h1, h2, _⟩ := merge_mem ha hb hd
      rw [e, ← e1, ← e2] at h1
      omega
  · have z1 : atV dev a = 0 := atV_not fun d hd e => hin (.inl ⟨d, hd, e⟩)
    have z2 : atV dev b = 0 := atV_not fun d hd e => hin (.inr ⟨d, hd, e⟩)
    rw [z1, z2, hr.zero]
    refine atV_not fun d hd e => ?_
    obtain ⟨_, _, h3⟩ := merge_mem ha hb hd
    rw [e] at h3
    exact hin h3
theorem merge_len {tk : Int → Int → Int} (a b : List D) : (mergeV tk a b).length ≤ a.length + b.length :=
  Nat.le_trans (List.length_filterMap_le _ _) (prN_len _ a b)

theorem filterMap_cong {α β : Type} {f g : α → Option β} : ∀ {l : List α}, (∀ x ∈ l, f x = g x) → l.filterMap f = l.filterMap g
  | [], _ => rfl
  | x :: l, h => by
    have h1 := h x (by simp)
    have h2 := filterMap_cong (l := l) fun y hy => h y (List.mem_cons_of_mem _ hy)
    rw [List.filterMap_cons, List.filterMap_cons, h1, h2]
/-- The reference's results are the same. -/
theorem join_same {a b : List D} (ha : Ok a) (hb : Ok b) : joinV a b = mergeV gmax a b := by
  unfold joinV mergeV devs
  rw [dev_pr, List.filterMap_map]
  obtain ⟨_, i2, i3, _, _⟩ := pr_spec _ a b (Nat.le_refl _) ha hb
  refine filterMap_cong fun p hp => ?_
  obtain ⟨e1, e2⟩ := i3 p hp
  show joinF a b p.1 = ruleF gmax p
  unfold joinF ruleF
  rw [← e1, ← e2]
  have hpos : gmax p.2.1 p.2.2 > 0 := by
    have r1 := atV_range ha p.1
    have r2 := atV_range hb p.1
    rcases i2 p hp with ⟨q, hq, e⟩ | ⟨q, hq, e⟩
    · have := atV_mem ha q hq
      have := isDot_iff.1 (ha.dots q hq)
      rw [← e] at r1 r2 e1 e2
      unfold gmax
      split <;> omega
    · have := atV_mem hb q hq
      have := isDot_iff.1 (hb.dots q hq)
      rw [← e] at r1 r2 e1 e2
      unfold gmax
      split <;> omega
  rw [if_pos hpos]
  rfl
theorem meet_same {a b : List D} (ha : Ok a) (hb : Ok b) : meetV a b = mergeV gmin a b := by
  unfold meetV mergeV devs
  rw [dev_pr, List.filterMap_map]
  obtain ⟨_, _, i3, _, _⟩ := pr_spec _ a b (Nat.le_refl _) ha hb
  refine filterMap_cong fun p hp => ?_
  obtain ⟨e1, e2⟩ := i3 p hp
  show meetF a b p.1 = ruleF gmin p
  unfold meetF ruleF
  rw [← e1, ← e2]
  rfl

/-! ### The order -/
theorem less_iff {a b : List D} (ha : Ok a) (hb : Ok b) : lessV a b = true ↔ ∃ dev, atV dev a < atV dev b := by
  obtain ⟨_, _, i3, _, i5⟩ := pr_spec _ a b (Nat.le_refl _) ha hb
  unfold lessV lessP
  rw [List.any_eq_true]
  constructor
  · rintro ⟨p, hp, h⟩
    obtain ⟨e1, e2⟩ := i3 p hp
    exact ⟨p.1, by rw [← e1, ← e2]; simpa using h⟩
  · rintro ⟨dev, h⟩
    have r1 := atV_range ha dev
    obtain ⟨q, hq, rfl, _⟩ := atV_pos hb (dev := dev) (by omega)
    obtain ⟨p, hp, e⟩ := i5 q hq
    obtain ⟨e1, e2⟩ := i3 p hp
    exact ⟨p, hp, by rw [e1, e2, e]; simpa using h⟩
theorem more_iff {a b : List D} (ha : Ok a) (hb : Ok b) : moreV a b = true ↔ ∃ dev, atV dev b < atV dev a := by
  obtain ⟨_, _, i3, i4, _⟩ := pr_spec _ a b (Nat.le_refl _) ha hb
  unfold moreV moreP
  rw [List.any_eq_true]
  constructor
  · rintro ⟨p, hp, h⟩
    obtain ⟨e1, e2⟩ := i3 p hp
    exact ⟨p.1, by rw [← e1, ← e2]; simpa using h⟩
  · rintro ⟨dev, h⟩
    have r1 := atV_range hb dev
    obtain ⟨q, hq, rfl, _⟩ := atV_pos ha (dev := dev) (by omega)
    obtain ⟨p, hp, e⟩ := i4 q hq
    obtain ⟨e1, e2⟩ := i3 p hp
    exact ⟨p, hp, by rw [e1, e2, e]; simpa using h⟩
/-- At most, device by device. -/
def Le (a b : List D) : Prop := ∀ dev, atV dev a ≤ atV dev b
theorem most_iff {a b : List D} (ha : Ok a) (hb : Ok b) : mostB a b = true ↔ Le a b := by
  unfold mostB
  rw [List.all_eq_true]
  constructor
  · intro h dev
    by_cases hp : atV dev a = 0
    · have := atV_range hb dev; omega
    · obtain ⟨d, hd, rfl, e⟩ := atV_pos ha hp
      have := h d hd
      simp at this
      omega
  · intro h d hd
    have := h d.1
    rw [atV_mem ha d hd] at this
    simpa using this
theorem not_more {a b : List D} (ha : Ok a) (hb : Ok b) : moreV a b = false ↔ Le a b := by
  rw [← Bool.not_eq_true, more_iff ha hb]
  exact ⟨fun h dev => Int.not_lt.1 fun h' => h ⟨dev, h'⟩, fun h ⟨dev, h'⟩ => by have := h dev; omega⟩
theorem not_less {a b : List D} (ha : Ok a) (hb : Ok b) : lessV a b = false ↔ Le b a := by
  rw [← Bool.not_eq_true, less_iff ha hb]
  exact ⟨fun h dev => Int.not_lt.1 fun h' => h ⟨dev, h'⟩, fun h ⟨dev, h'⟩ => by have := h dev; omega⟩
theorem cmp_same {a b : List D} (ha : Ok a) (hb : Ok b) : cmpV a b = compN a b := by
  have h1 : mostB a b = !moreV a b := by
    cases h : moreV a b with
    | false => rw [(most_iff ha hb).2 ((not_more ha hb).1 h)]; rfl
    | true =>
      rw [Bool.not_true, ← Bool.not_eq_true, most_iff ha hb, ← not_more ha hb, h]; simp
  have h2 : mostB b a = !lessV a b := by
    cases h : lessV a b with
    | false => rw [(most_iff hb ha).2 ((not_less ha hb).1 h)]; rfl
    | true =>
      rw [Bool.not_true, ← Bool.not_eq_true, most_iff hb ha, ← not_less ha hb, h]; simp
  unfold cmpV compN
  rw [h1, h2]
  cases lessV a b <;> cases moreV a b <;> rfl
end Go.Vec
