/- THE ABSTRACT MACHINE, 16: a region whose order is drawn. -/
import Derived.Test.YtpnoncfhclchdaaDoorAm15
namespace Go.Am
open Go

theorem Reps.congr {V : View} {xs ys : List AV} {vs : List Value} (h : Reps V xs vs) (hl : ys.length = xs.length) (he : ∀ t, t < xs.length → ys.getD t .dead = xs.getD t .dead) : Reps V ys vs :=
  ⟨h.1.trans hl.symm, fun j hj => by rw [he j (by omega)]; exact h.2 j (by omega)⟩

def inS (listed : Array Bool) (i : Nat) : Bool := listed.getD i false
theorem inS_set {listed : Array Bool} {i : Nat} (hi : i < listed.size) (j : Nat) : inS (listed.setIfInBounds i true) j = if j = i then true else inS listed j := by
  unfold inS
  by_cases h : j = i
  · subst h; simp [Array.getD_eq_getD_getElem?, hi]
  · simp [Array.getD_eq_getD_getElem?, h, show i ≠ j from fun e => h e.symm]

section
variable {P : Program} {G : Nat → Option (List AV)} {r : Option Nat} {ops : Array Oper} {tr : List Tr} {env : List AV} {H : List AObj}

structure Inv (G : Nat → Option (List AV)) (ops : Array Oper) (tr : List Tr) (env : List AV) (H : List AObj) (a0 : Act) (listed : Array Bool) (V : View) (a : Act) : Prop where
  size : listed.size = ops.size
  shut : Shut ops (inS listed)
  hG : HeapRep G V
  hH : V.H = heapS tr (inS listed) H ops.size
  he : EnvOk V (envS ops tr (inS listed) env ops.size) a
  hd : a.defers = a0.defers

theorem clash_e1 {ti tj : Tr} {oi oj : Oper} (h : ti.k = .eff) (h' : tj.k ≠ .free) (ho : over ti tj = true) : clash ops ti tj oi oj = true := by
  have : (ti.k == .eff && !(tj.k == .free)) = true := by rw [h]; cases hk : tj.k <;> first | rfl | exact absurd hk h'
  unfold clash
  rw [this, ho, Bool.true_and, Bool.or_true, Bool.true_or]
theorem clash_e2 {ti tj : Tr} {oi oj : Oper} (h : tj.k = .eff) (h' : ti.k ≠ .free) (ho : over ti tj = true) : clash ops ti tj oi oj = true := by
  have : (tj.k == .eff && !(ti.k == .free)) = true := by rw [h]; cases hk : ti.k <;> first | rfl | exact absurd hk h'
  unfold clash
  rw [this, ho, Bool.true_and, Bool.or_true]
theorem over_l {ti tj : Tr} (h : ti.at_ = none) : over ti tj = true := by unfold over; rw [h]
theorem over_r {ti tj : Tr} (h : tj.at_ = none) : over ti tj = true := by unfold over; rw [h]; cases ti.at_ <;> rfl
theorem over_touch {ti tj : Tr} {id : Nat} (h : ti.at_ = some id) (h' : touches tj id) : over ti tj = true ∧ over tj ti = true := by
  rcases h' with h' | h'
  · exact ⟨over_r h', over_l h'⟩
  · unfold over; rw [h, h']; simp

theorem clash_bit (hc : checkAll ops tr (bitsL ops.toList []) 0 ops.toList = true) (hl : tr.length = ops.size) {i j : Nat} {oi oj : Oper} (hi : ops[i]? = some oi) (hj : ops[j]? = some oj) (hij : i < j)
    (h : clash ops (tr.getD i default) (tr.getD j default) oi oj = true) : ((bitsL ops.toList []).getD j 0).testBit i = true := by
  have hjl := (Array.getElem?_eq_some_iff.1 hj).1
  have h1 := (checkAll_sound hc rfl j oj (Nat.zero_le _) hj).2
  have := checkAt_sound h1 i oi (tr.getD i default) (by rw [List.getElem?_take, if_pos hij]; simpa using hi) (by
    rw [List.getElem?_take, if_pos hij, List.getD_eq_getElem?_getD]
    have : i < tr.length := by omega
    simp [this]) h
  simpa using this

theorem any_step (hl : tr.length = ops.size) (htr : ∀ j, j < ops.size → TrOk P G ops tr env H j) (hc : checkAll ops tr (bitsL ops.toList []) 0 ops.toList = true) {a0 : Act} {listed : Array Bool} {V : View} {a : Act} (hI : Inv G ops tr env H a0 listed V a)
    {i : Nat} (hi : i ∈ Region.ready .any ops listed) {Q : Exit → Act → World → Prop} {next : Act → World → Prop} (hn : ∀ V' a', Step V V' → Inv G ops tr env H a0 (listed.setIfInBounds i true) V' a' → next a' V'.w) : wpOpIn (fz r) 0 P ops Q i next a V.w := by
  obtain ⟨hun, o, ho, hall⟩ := mem_ready.1 hi
  have hil := (Array.getElem?_eq_some_iff.1 ho).1
  have his : i < listed.size := by rw [hI.size]; exact hil
  have hnot : inS listed i = false := by
    unfold inS
    simp only [Array.getD_eq_getD_getElem?, Array.getElem?_eq_getElem his, Option.getD_some] at hun ⊢
    exact hun
  have hall' : ∀ e ∈ o.after, Region.binds .any e = true → inS listed e.on = true := hall
  obtain ⟨o', orc, orc', ps, ho', hsp, hst, hps⟩ := htr i hil
  rw [ho] at ho'
  cases ho'
  have getO : ∀ {j : Nat} {t : Tmp}, (ops[j]?).bind (·.dst) = some t → ∃ oj, ops[j]? = some oj ∧ oj.dst = some t := fun {j t} h => by
    cases hj : ops[j]? with
    | none => simp [hj] at h
    | some oj => exact ⟨oj, rfl, by simpa [hj] using h⟩
  have before : ∀ {j : Nat} {oj : Oper}, ops[j]? = some oj → j < i → clash ops (tr.getD j default) (tr.getD i default) oj o = true → inS listed j = true := fun hj hlt h =>
    before_ready hI.shut ho hall' (clash_bit hc hl hj ho hlt h)
  have after : ∀ {j : Nat} {oj : Oper}, ops[j]? = some oj → i < j → clash ops (tr.getD i default) (tr.getD j default) o oj = true → inS listed j = false := fun {j oj} hj hlt h => by
    cases hs : inS listed j with
    | false => rfl
    | true => rw [before_in hI.shut hs (clash_bit hc hl ho hj hlt h)] at hnot; cases hnot
  have hlook : ∀ t ∈ o.looksAt ops, (envS ops tr all_ env i).getD t .dead = (envS ops tr (inS listed) env ops.size).getD t .dead := fun t ht => by
    rw [envS_past (S := inS listed) (Nat.le_of_lt hil) fun j h1 h2 hd => ?_]
    · exact envS_eq fun j hj hd => by
        obtain ⟨oj, hoj, hdj⟩ := getO hd
        exact (before hoj hj (by simp [clash, hdj, ht])).symm
    · obtain ⟨oj, hoj, hdj⟩ := getO hd
      rcases Nat.lt_or_eq_of_le h1 with h1 | rfl
      · exact after hoj h1 (by simp [clash, hdj, ht])
      · exact hnot
  have hset := inS_set his
  have key : ∃ K', stepA P G ops (guards ops i) (envS ops tr all_ env i) V.H o orc = some ((tr.getD i default).k, .ret (tr.getD i default).x, K', orc', ps) ∧ (if (tr.getD i default).k = .free then V.H else K') = heapS tr (inS (listed.setIfInBounds i true)) H ops.size ∨
      ((tr.getD i default).k = .free ∧ V.H = heapS tr (inS (listed.setIfInBounds i true)) H ops.size) := by
    by_cases hk : (tr.getD i default).k = .free
    · refine ⟨[], .inr ⟨hk, ?_⟩⟩
      rw [hI.hH]
      exact heapS_eq fun j _ he => by rw [hset, if_neg fun e => by rw [e, hk] at he; cases he]
    · cases hat : (tr.getD i default).at_ with
      | none =>
        have hheap : V.H = heapS tr all_ H i := by
          rw [hI.hH, heapS_past (S := inS listed) (Nat.le_of_lt hil) fun j h1 h2 he => ?_]
          · exact heapS_eq fun j hj he => by
              have hoj : ops[j]? = some (ops[j]'(by omega)) := by simp
              exact before hoj hj (clash_e1 he hk (over_r hat))
          · rcases Nat.lt_or_eq_of_le h1 with h1 | rfl
            · have hoj : ops[j]? = some ops[j] := by simp
              exact after hoj h1 (clash_e2 he hk (over_l hat))
            · exact hnot
        refine ⟨(tr.getD i default).H, .inl ⟨by rw [hheap]; exact hst, ?_⟩⟩
        rw [if_neg hk]
        by_cases hke : (tr.getD i default).k = .eff
        · rw [heapS_past (S := inS (listed.setIfInBounds i true)) (i := i + 1) (by omega) fun j h1 h2 he => ?_]
          · simp only [heapS]
            rw [if_pos ⟨by rw [hset, if_pos rfl], hke⟩, hat]
          · rw [hset, if_neg (by omega)]
            have hoj : ops[j]? = some ops[j] := by simp
            exact after hoj (by omega) (clash_e1 hke (by rw [he]; simp) (over_l hat))
        · have e1 : heapS tr (inS (listed.setIfInBounds i true)) H ops.size = heapS tr (inS listed) H ops.size := heapS_eq fun j _ he => by
            rw [hset, if_neg fun e => hke (by rw [← e]; exact he)]
          rw [e1, ← hI.hH, hheap, stepA_heap hst hke]
      | some id =>
        have hobj : V.H[id]? = (heapS tr all_ H i)[id]? := by
          rw [hI.hH, heapS_at_past (S := inS listed) (Nat.le_of_lt hil) fun j h1 h2 he ht => ?_]
          · exact heapS_at fun j hj he ht => by
              have hoj : ops[j]? = some (ops[j]'(by omega)) := by simp
              exact before hoj hj (clash_e1 he hk (over_touch hat ht).2)
          · rcases Nat.lt_or_eq_of_le h1 with h1 | rfl
            · have hoj : ops[j]? = some ops[j] := by simp
              exact after hoj h1 (clash_e2 he hk (over_touch hat ht).1)
            · exact hnot
        obtain ⟨ob, h1, h2⟩ := stepA_local (K := V.H) hst (hsp.symm.trans hat) hobj
        refine ⟨_, .inl ⟨h2, ?_⟩⟩
        rw [if_neg hk]
        by_cases hke : (tr.getD i default).k = .eff
        · rw [if_pos hke] at h1 ⊢
          have ht : ∀ j, i < j → j < ops.size → (tr.getD j default).k = .eff → touches (tr.getD j default) id → inS listed j = false := fun j hj hjl he ht => by
            have hoj : ops[j]? = some ops[j] := by simp
            exact after hoj hj (clash_e2 he hk (over_touch hat ht).1)
          rw [heapS_one hke hat hnot (by rw [hset, if_pos rfl]) (fun j hj => by rw [hset, if_neg hj]) hil ht, ← hI.hH]
          by_cases hlt : id < (heapS tr all_ H i).length
          · rw [h1, getD_set_obj hlt]
          · have hno : V.H[id]? = none := by rw [hobj]; exact List.getElem?_eq_none (by omega)
            have hge : V.H.length ≤ id := List.getElem?_eq_none_iff.1 hno
            rw [List.set_eq_of_length_le hge, List.set_eq_of_length_le hge]
        · rw [if_neg hke]
          rw [hI.hH]
          exact heapS_eq fun j _ he => by rw [hset, if_neg fun e => hke (by rw [← e]; exact he)]
  obtain ⟨K', hst', hfin⟩ : ∃ K', (∃ Hx, stepA P G ops (guards ops i) (envS ops tr all_ env i) Hx o orc = some ((tr.getD i default).k, .ret (tr.getD i default).x, K', orc', ps) ∧ (V.H = Hx ∨ (tr.getD i default).k = .free)) ∧ (if (tr.getD i default).k = .free then V.H else K') = heapS tr (inS (listed.setIfInBounds i true)) H ops.size := by
    obtain ⟨K', h | h⟩ := key
    · exact ⟨K', ⟨V.H, h.1, .inl rfl⟩, h.2⟩
    · exact ⟨_, ⟨_, hst, .inr h.1⟩, by rw [if_pos h.1]; exact h.2⟩
  obtain ⟨Hx, hst', hH'⟩ := hst'
  refine (stepA_sound (r := r) (a := a) (V := V) ho hst' hps hI.hG (fun t ht => by rw [hlook t ht]; exact hI.he.get t) hH').1 next Q (fun V' v x hx hs hG' hVH hrep => ?_) (fun V' v x hx => by cases hx)
  cases hx
  refine hn V' _ hs ⟨by simpa using hI.size, fun j oj hoj hj e he hb => ?_, hG', ?_, ?_, (put_def _ _ _).trans hI.hd⟩
  · rw [hset] at hj ⊢
    split
    · rfl
    · by_cases hji : j = i
      · subst hji
        rw [ho] at hoj
        cases hoj
        exact hall' e he hb
      · rw [if_neg hji] at hj
        exact hI.shut j oj hoj hj e he hb
  · rw [hVH, hfin]
  · refine ((hI.he.step hs).put o.dst hrep).congr (by rw [putA_length, envS_length, envS_length]) fun t ht => ?_
    rw [putA_length, envS_length] at ht
    by_cases hd : o.dst = some t
    · have hR : (putA (envS ops tr (inS listed) env ops.size) o.dst (tr.getD i default).x).getD t .dead = (tr.getD i default).x := by
        rw [hd]; exact getD_set_self' (by rw [envS_length]; exact ht)
      rw [hR, envS_past (S := inS (listed.setIfInBounds i true)) (i := i + 1) (by omega) fun j h1 h2 hdj => ?_]
      · simp only [envS]
        rw [if_pos (by rw [hset, if_pos rfl]), ho]
        show (putA _ o.dst _).getD t .dead = _
        rw [hd]
        exact getD_set_self' (by rw [envS_length]; exact ht)
      · rw [hset, if_neg (by omega)]
        obtain ⟨oj, hoj, hdj⟩ := getO hdj
        exact after hoj (by omega) (by simp [clash, hdj, hd])
    · rw [putA_getD hd]
      exact envS_eq fun j _ hdj => by
        rw [hset, if_neg fun e => by
          subst e
          rw [ho] at hdj
          exact hd hdj]

theorem any_all (hc : checkAll ops tr (bitsL ops.toList []) 0 ops.toList = true) {listed : Array Bool} (hs : listed.size = ops.size) (hr : Region.ready .any ops listed = []) : ∀ i, i < ops.size → inS listed i = true := by
  intro i
  induction i using Nat.strongRecOn with
  | _ i ih =>
    intro hi
    have ho : ops[i]? = some ops[i] := by simp
    have h1 := (checkAll_sound hc rfl i _ (Nat.zero_le _) ho).1
    cases hS : inS listed i with
    | true => rfl
    | false =>
      have : i ∈ Region.ready .any ops listed := mem_ready.2 ⟨by
        unfold inS at hS
        have his : i < listed.size := by rw [hs]; exact hi
        simp only [Array.getD_eq_getD_getElem?, Array.getElem?_eq_getElem his, Option.getD_some] at hS ⊢
        exact hS, _, ho, fun e he hb => ih e.on (h1 e he hb) (by have := h1 e he hb; omega)⟩
      rw [hr] at this
      cases this

theorem any_sound (hl : tr.length = ops.size) (htr : ∀ j, j < ops.size → TrOk P G ops tr env H j) (hc : checkAll ops tr (bitsL ops.toList []) 0 ops.toList = true) {a0 : Act} {Q : Exit → Act → World → Prop} : ∀ (fuel : Nat) {listed : Array Bool} {V : View} {a : Act},
    Inv G ops tr env H a0 listed V a → listed.toList.count false ≤ fuel →
    (∀ V' a', Step V V' → HeapRep G V' → V'.H = heapS tr all_ H ops.size → EnvOk V' (envS ops tr all_ env ops.size) a' → a'.defers = a0.defers → Q .normal a' V'.w) → wpAnyIn (fz r) 0 P .any ops Q fuel listed a V.w := by
  have fin : ∀ {listed : Array Bool} {V : View} {a : Act}, Inv G ops tr env H a0 listed V a → (∀ i, i < ops.size → inS listed i = true) → V.H = heapS tr all_ H ops.size ∧ EnvOk V (envS ops tr all_ env ops.size) a := fun {listed V a} hI hall =>
    ⟨by rw [hI.hH]; exact heapS_eq fun j hj _ => hall j hj, Reps.congr hI.he (by rw [envS_length, envS_length]) fun t _ => (envS_eq fun j hj _ => hall j hj).symm⟩
  intro fuel
  induction fuel with
  | zero =>
    intro listed V a hI hcnt hn
    have hall : ∀ i, i < ops.size → inS listed i = true := fun i hi => by
      cases hS : inS listed i with
      | true => rfl
      | false =>
        have his : i < listed.size := by rw [hI.size]; exact hi
        have : false ∈ listed.toList := by
          unfold inS at hS
          simp only [Array.getD_eq_getD_getElem?, Array.getElem?_eq_getElem his, Option.getD_some] at hS
          rw [← hS]
          simp
        have := List.count_pos_iff.2 this
        omega
    refine ⟨?_, hn V a (Step.refl V) hI.hG (fin hI hall).1 (fin hI hall).2 hI.hd⟩
    cases hr : Region.ready .any ops listed with
    | nil => rfl
    | cons i is =>
      have hi : i ∈ Region.ready .any ops listed := by rw [hr]; simp
      obtain ⟨hun, o, ho, _⟩ := mem_ready.1 hi
      have hil := (Array.getElem?_eq_some_iff.1 ho).1
      have h1 := hall i hil
      have his : i < listed.size := by rw [hI.size]; exact hil
      unfold inS at h1
      simp only [Array.getD_eq_getD_getElem?, Array.getElem?_eq_getElem his, Option.getD_some] at h1 hun
      rw [h1] at hun
      cases hun
  | succ fuel ih =>
    intro listed V a hI hcnt hn
    refine ⟨fun hr => ?_, fun i hi => ?_⟩
    · have hall := any_all hc hI.size hr
      exact hn V a (Step.refl V) hI.hG (fin hI hall).1 (fin hI hall).2 hI.hd
    · refine any_step hl htr hc hI hi fun V' a' hs hI' => ih hI' ?_ fun V2 a2 s2 g2 h2 e2 d2 => hn V2 a2 (hs.trans s2) g2 h2 e2 d2
      obtain ⟨hun, o, ho, _⟩ := mem_ready.1 hi
      have his : i < listed.size := by rw [hI.size]; exact (Array.getElem?_eq_some_iff.1 ho).1
      have his' : i < listed.toList.length := by simpa using his
      simp only [Array.getD_eq_getD_getElem?, Array.getElem?_eq_getElem his, Option.getD_some] at hun
      have hlf : listed.toList[i] = false := by simpa using hun
      have hpos : 0 < listed.toList.count false := List.count_pos_iff.2 (by rw [← hlf]; exact List.getElem_mem his')
      have e : (listed.setIfInBounds i true).toList.count false = listed.toList.count false - 1 := by
        rw [Array.toList_setIfInBounds, List.count_set his', hlf]
        rfl
      rw [e]
      omega
end
end Go.Am
