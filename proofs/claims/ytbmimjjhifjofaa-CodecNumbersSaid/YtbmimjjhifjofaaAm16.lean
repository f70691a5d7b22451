/- THE ABSTRACT MACHINE, 16: a region whose order is drawn. -/
import Derived.Test.YtbmimjjhifjofaaAm15
namespace Go.Am
open Go

theorem Reps.congr {V : View} {xs ys : List AV} {vs : List Value} (h : Reps V xs vs) (hl : ys.length = xs.length) (he : ∀ t, t < xs.length → ys.getD t .dead = xs.getD t .dead) : Reps V ys vs :=
  ⟨h.1.trans hl.symm, fun j hj => by rw [he j (by omega)]; exact h.2 j (by omega)⟩

def inS (listed : Array Bool) (i : Nat) : Bool := listed.getD i false
theorem inS_set {listed : Array Bool} {i : Nat} (hi : i < listed.size) (j : Nat) : inS (listed.setIfInBounds i true) j = if j = i then true else inS listed j := by
  unfold inS
  by_cases h : j = i
  · subst h; simp [Array.getD_eq_getD_getElem?, hi]
  · simp [Array.getD_eq_getD_getElem?, h, show i ≠ j from fun e => h e.symm]

section
variable {P : Program} {G : Nat → Option (List AV)} {r : Option Nat} {ops : Array Oper} {tr : List Tr} {env : List AV} {H : List AObj}

structure Inv (G : Nat → Option (List AV)) (ops : Array Oper) (tr : List Tr) (env : List AV) (H : List AObj) (p : Option Nat) (a0 : Act) (listed : Array Bool) (V : View) (a : Act) : Prop where
  size : listed.size = ops.size
  shut : Shut ops (inS listed)
  hG : HeapRep G V
  hH : HeapIs tr (inS listed) H ops.size V.H
  he : EnvOk V (envS ops tr (inS listed) env ops.size) a
  hd : a.defers = a0.defers
  pn : ∀ q, p = some q → inS listed q = false

theorem clash_e1 {ti tj : Tr} {oi oj : Oper} (h : ti.k = .eff) (h' : tj.k ≠ .free) (ho : over ti tj = true) : clash ops ti tj oi oj = true := by
  have : (ti.k == .eff && !(tj.k == .free)) = true := by rw [h]; cases hk : tj.k <;> first | rfl | exact absurd hk h'
  unfold clash
  rw [this, ho, Bool.true_and, Bool.or_true, Bool.true_or]
theorem clash_e2 {ti tj : Tr} {oi oj : Oper} (h : tj.k = .eff) (h' : ti.k ≠ .free) (ho : over ti tj = true) : clash ops ti tj oi oj = true := by
  have : (tj.k == .eff && !(ti.k == .free)) = true := by rw [h]; cases hk : ti.k <;> first | rfl | exact absurd hk h'
  unfold clash
  rw [this, ho, Bool.true_and, Bool.or_true]

theorem clash_bit (hc : checkAll ops tr (bitsL ops.toList []) 0 ops.toList = true) (hl : tr.length = ops.size) {i j : Nat} {oi oj : Oper} (hi : ops[i]? = some oi) (hj : ops[j]? = some oj) (hij : i < j)
    (h : clash ops (tr.getD i default) (tr.getD j default) oi oj = true) : ((bitsL ops.toList []).getD j 0).testBit i = true := by
  have hjl := (Array.getElem?_eq_some_iff.1 hj).1
  have h1 := (checkAll_sound hc rfl j oj (Nat.zero_le _) hj).2
  have := checkAt_sound h1 i oi (tr.getD i default) (by rw [List.getElem?_take, if_pos hij]; simpa using hi) (by
    rw [List.getElem?_take, if_pos hij, List.getD_eq_getElem?_getD]
    have : i < tr.length := by omega
    simp [this]) h
  simpa using this

theorem any_step {p : Option Nat} (hl : tr.length = ops.size) (hc : checkAll ops tr (bitsL ops.toList []) 0 ops.toList = true) {a0 : Act} {listed : Array Bool} {V : View} {a : Act} (hI : Inv G ops tr env H p a0 listed V a)
    {i : Nat} (htr : TrOk P G ops tr env H i) (hip : p ≠ some i) (hi : i ∈ Region.ready .any ops listed) {Q : Exit → Act → World → Prop} {next : Act → World → Prop} (hn : ∀ V' a', Step V V' → Inv G ops tr env H p a0 (listed.setIfInBounds i true) V' a' → next a' V'.w) : wpOpIn (fz r) 0 P ops Q i next a V.w := by
  obtain ⟨hun, o, ho, hall⟩ := mem_ready.1 hi
  have hil := (Array.getElem?_eq_some_iff.1 ho).1
  have his : i < listed.size := by rw [hI.size]; exact hil
  have hnot : inS listed i = false := by
    unfold inS
    simp only [Array.getD_eq_getD_getElem?, Array.getElem?_eq_getElem his, Option.getD_some] at hun ⊢
    exact hun
  have hall' : ∀ e ∈ o.after, Region.binds .any e = true → inS listed e.on = true := hall
  obtain ⟨o', orc, orc', ps, Hi, ho', hHi, hmk, hst, hps⟩ := htr
  rw [ho] at ho'
  cases ho'
  have getO : ∀ {j : Nat} {t : Tmp}, (ops[j]?).bind (·.dst) = some t → ∃ oj, ops[j]? = some oj ∧ oj.dst = some t := fun {j t} h => by
    cases hj : ops[j]? with
    | none => simp [hj] at h
    | some oj => exact ⟨oj, rfl, by simpa [hj] using h⟩
  have before : ∀ {j : Nat} {oj : Oper}, ops[j]? = some oj → j < i → clash ops (tr.getD j default) (tr.getD i default) oj o = true → inS listed j = true := fun hj hlt h =>
    before_ready hI.shut ho hall' (clash_bit hc hl hj ho hlt h)
  have after : ∀ {j : Nat} {oj : Oper}, ops[j]? = some oj → i < j → clash ops (tr.getD i default) (tr.getD j default) o oj = true → inS listed j = false := fun {j oj} hj hlt h => by
    cases hs : inS listed j with
    | false => rfl
    | true => rw [before_in hI.shut hs (clash_bit hc hl ho hj hlt h)] at hnot; cases hnot
  have hlook : ∀ t ∈ o.looksAt ops, (envS ops tr all_ env i).getD t .dead = (envS ops tr (inS listed) env ops.size).getD t .dead := fun t ht => by
    rw [envS_past (S := inS listed) (Nat.le_of_lt hil) fun j h1 h2 hd => ?_]
    · exact envS_eq fun j hj hd => by
        obtain ⟨oj, hoj, hdj⟩ := getO hd
        exact (before hoj hj (by simp [clash, hdj, ht])).symm
    · obtain ⟨oj, hoj, hdj⟩ := getO hd
      rcases Nat.lt_or_eq_of_le h1 with h1 | rfl
      · exact after hoj h1 (by simp [clash, hdj, ht])
      · exact hnot
  have hset := inS_set his
  -- the heap, as the step sees it
  have opAt : ∀ {j : Nat} (h : j < ops.size), ops[j]? = some ops[j] := fun h => by simp
  have hsee : ∀ id, (tr.getD i default).k ≠ .free → (tr.getD i default).touch id = true → V.H[id]? = Hi[id]? := fun id hk hto => by
    rw [hI.hH.at_, hHi.at_, heapAt_past (S := inS listed) (Nat.le_of_lt hil) fun j h1 h2 he ht => ?_]
    · exact heapAt_eq fun j hj he ht => before (opAt (by omega)) hj (clash_e1 he hk (over_touch ht hto))
    · rcases Nat.lt_or_eq_of_le h1 with h1 | rfl
      · exact after (opAt h2) h1 (clash_e2 he hk (over_touch hto ht))
      · exact hnot
  have hlen : (tr.getD i default).k ≠ .free → (tr.getD i default).lens = true → V.H.length = Hi.length := fun hk hto => by
    rw [hI.hH.len, hHi.len, lenAt_past (S := inS listed) (Nat.le_of_lt hil) fun j h1 h2 he ht => ?_]
    · exact lenAt_eq fun j hj he ht => before (opAt (by omega)) hj (clash_e1 he hk (over_len ht hto))
    · rcases Nat.lt_or_eq_of_le h1 with h1 | rfl
      · exact after (opAt h2) h1 (clash_e2 he hk (over_len hto ht))
      · exact hnot
  -- behind the step
  have hafter : ∀ id, (tr.getD i default).k = .eff → heapAt tr (inS (listed.setIfInBounds i true)) H ops.size id = if (tr.getD i default).touch id = true then (tr.getD i default).H[id]? else V.H[id]? := fun id hke => by
    cases hto : (tr.getD i default).touch id with
    | true =>
      rw [if_pos rfl, heapAt_past (S := inS (listed.setIfInBounds i true)) (i := i + 1) (by omega) fun j h1 h2 he ht => ?_]
      · simp only [heapAt]
        rw [if_pos ⟨by rw [hset, if_pos rfl], hke, hto⟩]
      · rw [hset, if_neg (by omega)]
        exact after (opAt h2) (by omega) (clash_e1 hke (by rw [he]; simp) (over_touch hto ht))
    | false =>
      rw [if_neg (by simp), hI.hH.at_]
      exact heapAt_eq fun j _ he ht => by rw [hset, if_neg fun e => by rw [e, hto] at ht; cases ht]
  have hafterl : (tr.getD i default).k = .eff → lenAt tr (inS (listed.setIfInBounds i true)) H ops.size = if (tr.getD i default).lens = true then (tr.getD i default).H.length else V.H.length := fun hke => by
    cases hto : (tr.getD i default).lens with
    | true =>
      rw [if_pos rfl, lenAt_past (S := inS (listed.setIfInBounds i true)) (i := i + 1) (by omega) fun j h1 h2 he ht => ?_]
      · simp only [lenAt]
        rw [if_pos ⟨by rw [hset, if_pos rfl], hke, hto⟩]
      · rw [hset, if_neg (by omega)]
        exact after (opAt h2) (by omega) (clash_e1 hke (by rw [he]; simp) (over_len hto ht))
    | false =>
      rw [if_neg (by simp), hI.hH.len]
      exact lenAt_eq fun j _ he ht => by rw [hset, if_neg fun e => by rw [e, hto] at ht; cases ht]
  have hnoeff : (tr.getD i default).k ≠ .eff → HeapIs tr (inS (listed.setIfInBounds i true)) H ops.size V.H := fun hke =>
    ⟨fun id => by rw [hI.hH.at_]; exact heapAt_eq fun j _ he _ => by rw [hset, if_neg fun e => hke (by rw [← e]; exact he)],
     by rw [hI.hH.len]; exact lenAt_eq fun j _ he _ => by rw [hset, if_neg fun e => hke (by rw [← e]; exact he)]⟩
  have key : ∃ K' Hx, stepA P G ops (guards ops i) (envS ops tr all_ env i) Hx o orc = some ((tr.getD i default).k, .ret (tr.getD i default).x, K', orc', ps) ∧ (V.H = Hx ∨ (tr.getD i default).k = .free) ∧
      HeapIs tr (inS (listed.setIfInBounds i true)) H ops.size (if (tr.getD i default).k = .free then V.H else K') := by
    by_cases hk : (tr.getD i default).k = .free
    · exact ⟨_, _, hst, .inr hk, by rw [if_pos hk]; exact hnoeff (by rw [hk]; simp)⟩
    · suffices hs : ∃ K' Hx, stepA P G ops (guards ops i) (envS ops tr all_ env i) Hx o orc = some ((tr.getD i default).k, .ret (tr.getD i default).x, K', orc', ps) ∧ V.H = Hx ∧ HeapIs tr (inS (listed.setIfInBounds i true)) H ops.size K' by
        obtain ⟨K', Hx, h1, h2, h3⟩ := hs
        exact ⟨K', Hx, h1, .inl h2, by rw [if_neg hk]; exact h3⟩
      cases hf : foot (evA G (envS ops tr all_ env i)) o orc with
      | none =>
        have hids : (tr.getD i default).ids = none := by rw [hmk]; unfold mkTr; rw [hf]
        have hto : ∀ id, (tr.getD i default).touch id = true := fun id => by unfold Tr.touch; rw [hids]
        have hle : (tr.getD i default).lens = true := by unfold Tr.lens; rw [hids]; simp
        have hVH : V.H = Hi := List.ext_getElem? fun id => hsee id hk (hto id)
        refine ⟨_, _, hst, hVH, ?_⟩
        by_cases hke : (tr.getD i default).k = .eff
        · exact ⟨fun id => by rw [hafter id hke, if_pos (hto id)], by rw [hafterl hke, if_pos hle]⟩
        · rw [stepA_heap hst hke, ← hVH]; exact hnoeff hke
      | some q =>
        obtain ⟨ids, len⟩ := q
        have hids : (tr.getD i default).ids = some (ids ++ made len Hi (tr.getD i default).H) ∧ (tr.getD i default).len = len := by
          constructor
          · conv => lhs; rw [hmk]
            unfold mkTr; rw [hf]
          · rw [hmk]; unfold mkTr; rw [hf]
        have hto : ∀ id, (tr.getD i default).touch id = true ↔ id ∈ ids ++ made len Hi (tr.getD i default).H := fun id => by unfold Tr.touch; rw [hids.1]; exact List.contains_iff_mem
        have hle : (tr.getD i default).lens = len := by unfold Tr.lens; rw [hids.1, hids.2]; simp
        obtain ⟨K', h1, h2⟩ := stepA_loc (K := V.H) hst hf ⟨fun id hid => hsee id hk ((hto id).2 (List.mem_append_left _ hid)), fun h => hlen hk (by rw [hle]; exact h)⟩
        refine ⟨K', V.H, h1, rfl, ?_⟩
        by_cases hke : (tr.getD i default).k = .eff
        · refine ⟨fun id => ?_, ?_⟩
          · rw [hafter id hke]
            by_cases ht : id ∈ ids ++ made len Hi (tr.getD i default).H
            · rw [if_pos ((hto id).2 ht)]; exact h2.inn id ht
            · rw [if_neg fun h => ht ((hto id).1 h)]; exact (h2.out id ht).1
          · rw [hafterl hke, hle]
            cases len with
            | true => rw [if_pos rfl]; exact h2.l2 rfl
            | false => rw [if_neg (by simp)]; exact (h2.l1 rfl).2
        · rw [stepA_heap h1 hke]; exact hnoeff hke
  obtain ⟨K', Hx, hst', hH', hfin⟩ := key
  refine (stepA_sound (r := r) (a := a) (V := V) ho hst' hps hI.hG (fun t ht => by rw [hlook t ht]; exact hI.he.get t) hH').1 next Q (fun V' v x hx hs hG' hVH hrep => ?_) (fun V' v x hx => by cases hx)
  cases hx
  refine hn V' _ hs ⟨by simpa using hI.size, fun j oj hoj hj e he hb => ?_, hG', ?_, ?_, (put_def _ _ _).trans hI.hd, fun q hq => ?_⟩
  · rw [hset] at hj ⊢
    split
    · rfl
    · by_cases hji : j = i
      · subst hji
        rw [ho] at hoj
        cases hoj
        exact hall' e he hb
      · rw [if_neg hji] at hj
        exact hI.shut j oj hoj hj e he hb
  · rw [hVH]; exact hfin
  · refine ((hI.he.step hs).put o.dst hrep).congr (by rw [putA_length, envS_length, envS_length]) fun t ht => ?_
    rw [putA_length, envS_length] at ht
    by_cases hd : o.dst = some t
    · have hR : (putA (envS ops tr (inS listed) env ops.size) o.dst (tr.getD i default).x).getD t .dead = (tr.getD i default).x := by
        rw [hd]; exact getD_set_self' (by rw [envS_length]; exact ht)
      rw [hR, envS_past (S := inS (listed.setIfInBounds i true)) (i := i + 1) (by omega) fun j h1 h2 hdj => ?_]
      · simp only [envS]
        rw [if_pos (by rw [hset, if_pos rfl]), ho]
        show (putA _ o.dst _).getD t .dead = _
        rw [hd]
        exact getD_set_self' (by rw [envS_length]; exact ht)
      · rw [hset, if_neg (by omega)]
        obtain ⟨oj, hoj, hdj⟩ := getO hdj
        exact after hoj (by omega) (by simp [clash, hdj, hd])
    · rw [putA_getD hd]
      exact envS_eq fun j _ hdj => by
        rw [hset, if_neg fun e => by
          subst e
          rw [ho] at hdj
          exact hd hdj]
  · rw [hset, if_neg fun e => hip (by rw [← e]; exact hq)]
    exact hI.pn q hq

/-- The operation that panics. -/
theorem any_pan {q : Nat} {x : AV} {H1 : List AObj} (hl : tr.length = ops.size) (hc : checkAll ops tr (bitsL ops.toList []) 0 ops.toList = true) {a0 : Act} {listed : Array Bool} {V : View} {a : Act} (hI : Inv G ops tr env H (some q) a0 listed V a)
    (hpn : PanOk P G ops tr env H q x H1) (hbef : ∀ j, j < ops.size → (tr.getD j default).k = .eff → ((bitsL ops.toList []).getD q 0).testBit j = true) (hqk : (tr.getD q default).k = .free) (hi : q ∈ Region.ready .any ops listed) {Q : Exit → Act → World → Prop} {next : Act → World → Prop}
    (hn : ∀ V' v, Step V V' → HeapRep G V' → V'.H = H1 → Rep V' x v → Q (.panic [{ v := v, recovered := false }]) a V'.w) : wpOpIn (fz r) 0 P ops Q q next a V.w := by
  obtain ⟨hun, o, ho, hall⟩ := mem_ready.1 hi
  have hil := (Array.getElem?_eq_some_iff.1 ho).1
  have hall' : ∀ e ∈ o.after, Region.binds .any e = true → inS listed e.on = true := hall
  have hnot := hI.pn q rfl
  obtain ⟨o', orc, orc', ps, Hi, k, ho', hHi, hst, hps, hnk⟩ := hpn
  rw [ho] at ho'
  cases ho'
  have getO : ∀ {j : Nat} {t : Tmp}, (ops[j]?).bind (·.dst) = some t → ∃ oj, ops[j]? = some oj ∧ oj.dst = some t := fun {j t} h => by
    cases hj : ops[j]? with
    | none => simp [hj] at h
    | some oj => exact ⟨oj, rfl, by simpa [hj] using h⟩
  have before : ∀ {j : Nat} {oj : Oper}, ops[j]? = some oj → j < q → clash ops (tr.getD j default) (tr.getD q default) oj o = true → inS listed j = true := fun hj hlt h =>
    before_ready hI.shut ho hall' (clash_bit hc hl hj ho hlt h)
  have after : ∀ {j : Nat} {oj : Oper}, ops[j]? = some oj → q < j → clash ops (tr.getD q default) (tr.getD j default) o oj = true → inS listed j = false := fun {j oj} hj hlt h => by
    cases hs : inS listed j with
    | false => rfl
    | true => rw [before_in hI.shut hs (clash_bit hc hl ho hj hlt h)] at hnot; cases hnot
  have hlook : ∀ t ∈ o.looksAt ops, (envS ops tr all_ env q).getD t .dead = (envS ops tr (inS listed) env ops.size).getD t .dead := fun t ht => by
    rw [envS_past (S := inS listed) (Nat.le_of_lt hil) fun j h1 h2 hd => ?_]
    · exact envS_eq fun j hj hd => by
        obtain ⟨oj, hoj, hdj⟩ := getO hd
        exact (before hoj hj (by simp [clash, hdj, ht])).symm
    · obtain ⟨oj, hoj, hdj⟩ := getO hd
      rcases Nat.lt_or_eq_of_le h1 with h1 | rfl
      · exact after hoj h1 (by simp [clash, hdj, ht])
      · exact hnot
  have inn : ∀ j, j < ops.size → (tr.getD j default).k = .eff → inS listed j = true := fun j hj he => before_ready hI.shut ho hall' (hbef j hj he)
  have small : ∀ j, j < ops.size → (tr.getD j default).k = .eff → j < q := fun j hj he => by
    rcases Nat.lt_trichotomy j q with h | rfl | h
    · exact h
    · rw [hqk] at he; cases he
    · -- what q comes behind stands ahead of it
      exfalso
      have hS : Shut ops (fun i => decide (i < q)) := fun m om hom hm e he hb => by
        have h1 := (checkAll_sound hc rfl m om (Nat.zero_le _) hom).1 e he hb
        simp only [decide_eq_true_eq] at hm ⊢
        omega
      have := before_ready hS ho (fun e he hb => by
        have h1 := (checkAll_sound hc rfl q o (Nat.zero_le _) ho).1 e he hb
        simpa using h1) (hbef j hj he)
      simp only [decide_eq_true_eq] at this
      omega
  have hVH : V.H = Hi := by
    refine HeapIs.uniq (tr := tr) (S := all_) (H := H) (m := q) ⟨fun id => ?_, ?_⟩ hHi
    · rw [hI.hH.at_, heapAt_past (S := inS listed) (Nat.le_of_lt hil) fun j h1 h2 he _ => absurd (small j h2 he) (by omega)]
      exact heapAt_eq fun j hj he _ => inn j (by omega) he
    · rw [hI.hH.len, lenAt_past (S := inS listed) (Nat.le_of_lt hil) fun j h1 h2 he _ => absurd (small j h2 he) (by omega)]
      exact lenAt_eq fun j hj he _ => inn j (by omega) he
  refine (stepA_sound (r := r) (a := a) (V := V) ho hst hps hI.hG (fun t ht => by rw [hlook t ht]; exact hI.he.get t) (.inl hVH)).1 next Q (fun V' v x hx => by cases hx) (fun V' v y hy hs hG' hV1 hrep => ?_)
  cases hy
  refine hn V' v hs hG' ?_ hrep
  rw [hV1]
  split
  · rename_i hk; rw [hVH, hnk (by rw [hk]; simp)]
  · rfl

theorem any_all (hc : checkAll ops tr (bitsL ops.toList []) 0 ops.toList = true) {listed : Array Bool} (hs : listed.size = ops.size) (hr : Region.ready .any ops listed = []) : ∀ i, i < ops.size → inS listed i = true := by
  intro i
  induction i using Nat.strongRecOn with
  | _ i ih =>
    intro hi
    have ho : ops[i]? = some ops[i] := by simp
    have h1 := (checkAll_sound hc rfl i _ (Nat.zero_le _) ho).1
    cases hS : inS listed i with
    | true => rfl
    | false =>
      have : i ∈ Region.ready .any ops listed := mem_ready.2 ⟨by
        unfold inS at hS
        have his : i < listed.size := by rw [hs]; exact hi
        simp only [Array.getD_eq_getD_getElem?, Array.getElem?_eq_getElem his, Option.getD_some] at hS ⊢
        exact hS, _, ho, fun e he hb => ih e.on (h1 e he hb) (by have := h1 e he hb; omega)⟩
      rw [hr] at this
      cases this

/-- In any order: all operations, or the one that panics and what may come ahead of it. -/
theorem any_sound {p : Option Nat} {x : AV} {H1 : List AObj} {Hfin : List AObj} (hl : tr.length = ops.size) (htr : ∀ j, j < ops.size → isBehind (bitsL ops.toList []) p j = false → p ≠ some j → TrOk P G ops tr env H j) (hc : checkAll ops tr (bitsL ops.toList []) 0 ops.toList = true)
    (hfin : HeapIs tr all_ H ops.size Hfin) (hpan : ∀ q, p = some q → q < ops.size ∧ PanOk P G ops tr env H q x H1 ∧ (∀ j, j < ops.size → (tr.getD j default).k = .eff → ((bitsL ops.toList []).getD q 0).testBit j = true) ∧ (tr.getD q default).k = .free)
    {a0 : Act} {Q : Exit → Act → World → Prop} : ∀ (fuel : Nat) {listed : Array Bool} {V : View} {a : Act},
    Inv G ops tr env H p a0 listed V a → listed.toList.count false ≤ fuel →
    (p = none → ∀ V' a', Step V V' → HeapRep G V' → V'.H = Hfin → EnvOk V' (envS ops tr all_ env ops.size) a' → a'.defers = a0.defers → Q .normal a' V'.w) →
    (∀ V' a' v S, p ≠ none → Step V V' → HeapRep G V' → V'.H = H1 → EnvOk V' (envS ops tr S env ops.size) a' → a'.defers = a0.defers → Rep V' x v → Q (.panic [{ v := v, recovered := false }]) a' V'.w) → wpAnyIn (fz r) 0 P .any ops Q fuel listed a V.w := by
  have fin : ∀ {listed : Array Bool} {V : View} {a : Act}, Inv G ops tr env H p a0 listed V a → (∀ i, i < ops.size → inS listed i = true) → V.H = Hfin ∧ EnvOk V (envS ops tr all_ env ops.size) a := fun {listed V a} hI hall =>
    ⟨HeapIs.uniq ⟨fun id => by rw [hI.hH.at_]; exact heapAt_eq fun j hj _ _ => hall j hj, by rw [hI.hH.len]; exact lenAt_eq fun j hj _ _ => hall j hj⟩ hfin, Reps.congr hI.he (by rw [envS_length, envS_length]) fun t _ => (envS_eq fun j hj _ => hall j hj).symm⟩
  have nop : ∀ {listed : Array Bool} {V : View} {a : Act}, Inv G ops tr env H p a0 listed V a → (∀ i, i < ops.size → inS listed i = true) → p = none := fun {listed V a} hI hall => by
    cases hp : p with
    | none => rfl
    | some q => have := hI.pn q hp; rw [hall q (hpan q hp).1] at this; cases this
  intro fuel
  induction fuel with
  | zero =>
    intro listed V a hI hcnt hn _
    have hall : ∀ i, i < ops.size → inS listed i = true := fun i hi => by
      cases hS : inS listed i with
      | true => rfl
      | false =>
        have his : i < listed.size := by rw [hI.size]; exact hi
        have : false ∈ listed.toList := by
          unfold inS at hS
          simp only [Array.getD_eq_getD_getElem?, Array.getElem?_eq_getElem his, Option.getD_some] at hS
          rw [← hS]
          simp
        have := List.count_pos_iff.2 this
        omega
    refine ⟨?_, hn (nop hI hall) V a (Step.refl V) hI.hG (fin hI hall).1 (fin hI hall).2 hI.hd⟩
    cases hr : Region.ready .any ops listed with
    | nil => rfl
    | cons i is =>
      have hi : i ∈ Region.ready .any ops listed := by rw [hr]; simp
      obtain ⟨hun, o, ho, _⟩ := mem_ready.1 hi
      have hil := (Array.getElem?_eq_some_iff.1 ho).1
      have h1 := hall i hil
      have his : i < listed.size := by rw [hI.size]; exact hil
      unfold inS at h1
      simp only [Array.getD_eq_getD_getElem?, Array.getElem?_eq_getElem his, Option.getD_some] at h1 hun
      rw [h1] at hun
      cases hun
  | succ fuel ih =>
    intro listed V a hI hcnt hn hpq
    refine ⟨fun hr => ?_, fun i hi => ?_⟩
    · have hall := any_all hc hI.size hr
      exact hn (nop hI hall) V a (Step.refl V) hI.hG (fin hI hall).1 (fin hI hall).2 hI.hd
    · obtain ⟨hun, o, ho, hall⟩ := mem_ready.1 hi
      have hil := (Array.getElem?_eq_some_iff.1 ho).1
      have hall' : ∀ e ∈ o.after, Region.binds .any e = true → inS listed e.on = true := hall
      by_cases hip : p = some i
      · subst hip
        obtain ⟨_, k1, k2, k3⟩ := hpan i rfl
        exact any_pan hl hc hI k1 k2 k3 hi fun V' v s1 g1 h1 r1 => hpq V' a v (inS listed) (by simp) s1 g1 h1 (hI.he.step s1) hI.hd r1
      · have hib : isBehind (bitsL ops.toList []) p i = false := by
          cases hb : isBehind (bitsL ops.toList []) p i with
          | false => rfl
          | true =>
            unfold isBehind at hb
            split at hb
            · rename_i q
              have := before_ready hI.shut ho hall' hb
              rw [hI.pn q rfl] at this
              cases this
            · cases hb
        refine any_step hl hc hI (htr i hil hib hip) hip hi fun V' a' hs hI' => ih hI' ?_ (fun hp V2 a2 s2 g2 h2 e2 d2 => hn hp V2 a2 (hs.trans s2) g2 h2 e2 d2) (fun V2 a2 v2 S hp s2 g2 h2 e2 d2 r2 => hpq V2 a2 v2 S hp (hs.trans s2) g2 h2 e2 d2 r2)
        have his : i < listed.size := by rw [hI.size]; exact hil
        have his' : i < listed.toList.length := by simpa using his
        simp only [Array.getD_eq_getD_getElem?, Array.getElem?_eq_getElem his, Option.getD_some] at hun
        have hlf : listed.toList[i] = false := by simpa using hun
        have hpos : 0 < listed.toList.count false := List.count_pos_iff.2 (by rw [← hlf]; exact List.getElem_mem his')
        have e : (listed.setIfInBounds i true).toList.count false = listed.toList.count false - 1 := by
          rw [Array.toList_setIfInBounds, List.count_set his', hlf]
          rfl
        rw [e]
        omega
end
end Go.Am
