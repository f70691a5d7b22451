/- THE ABSTRACT MACHINE, 2: own objects under other numbers; a smaller heap inside a greater one. -/
import Derived.Test.YtbmimjjhifjofaaAm1
namespace Go.Am
open Go

mutual
def AV.ren (σ : Nat → Nat) : AV → AV
  | .lit v => .lit v
  | .ptr id off => .ptr (σ id) off
  | .apt id g k j => .apt (σ id) g k j
  | .imm cs => .imm cs
  | .sl sz t xs => .sl sz t xs
  | .own id g off len => .own (σ id) g off len
  | .mp id => .mp (σ id)
  | .yl id => .yl (σ id)
  | .fn f as bs => .fn f (AV.renL σ as) (AV.renL σ bs)
  | .ifc t x => .ifc t (x.ren σ)
  | .agg cs => .agg (AV.renL σ cs)
  | .tup cs => .tup (AV.renL σ cs)
  | .dead => .dead
def AV.renL (σ : Nat → Nat) : List AV → List AV
  | [] => []
  | x :: xs => x.ren σ :: AV.renL σ xs
end

mutual
/-- Its own objects' numbers are below n. -/
def AV.idsLt (n : Nat) : AV → Bool
  | .ptr id _ | .apt id _ _ _ | .own id _ _ _ | .mp id | .yl id => Nat.blt id n
  | .fn _ as bs => AV.idsLtL n as && AV.idsLtL n bs
  | .ifc _ x => x.idsLt n
  | .agg cs | .tup cs => AV.idsLtL n cs
  | _ => true
def AV.idsLtL (n : Nat) : List AV → Bool
  | [] => true
  | x :: xs => x.idsLt n && AV.idsLtL n xs
end

def AObj.ren (σ : Nat → Nat) : AObj → AObj
  | .box cs => .box (AV.renL σ cs)
  | .arr g sz fz xs => .arr g sz fz (xs.map (AV.renL σ))
  | .map es => .map (es.map fun (k, v) => (k.ren σ, v.ren σ))
  | .rng st p env ps as bd => .rng st p (AV.renL σ env) ps as bd
  | .dfd => .dfd
  | .gone => .gone
def AObj.idsLt (n : Nat) : AObj → Prop
  | .box cs => AV.idsLtL n cs = true
  | .arr _ _ _ xs => ∀ x ∈ xs, AV.idsLtL n x = true
  | .map es => ∀ e ∈ es, e.1.idsLt n = true ∧ e.2.idsLt n = true
  | .rng _ _ env _ _ _ => AV.idsLtL n env = true
  | _ => True

theorem renL_length (σ : Nat → Nat) : ∀ xs : List AV, (AV.renL σ xs).length = xs.length
  | [] => by simp [AV.renL]
  | x :: xs => by simp [AV.renL, renL_length σ xs]
theorem renL_getD (σ : Nat → Nat) : ∀ (xs : List AV) (j : Nat), (AV.renL σ xs).getD j .dead = (xs.getD j .dead).ren σ
  | [], j => by simp [AV.renL, AV.ren]
  | x :: xs, 0 => by simp [AV.renL]
  | x :: xs, j + 1 => by simpa [AV.renL] using renL_getD σ xs j
theorem idsLtL_getD {n : Nat} : ∀ {xs : List AV} (j : Nat), AV.idsLtL n xs = true → j < xs.length → (xs.getD j .dead).idsLt n = true
  | [], j, _, hj => absurd hj (by simp)
  | x :: xs, 0, h, _ => by simp [AV.idsLtL] at h; simpa using h.1
  | x :: xs, j + 1, h, hj => by simp [AV.idsLtL] at h; simpa using idsLtL_getD j h.2 (by simpa using hj)

/-- V1 lies in V2, its objects under the numbers σ. -/
structure Lk (V1 V2 : View) (σ : Nat → Nat) : Prop where
  w : V2.w = V1.w
  M : ∀ b, V2.M b ↔ V1.M b
  ρ : ∀ i, i < V1.H.length → V2.ρ (σ i) = V1.ρ i
  obj : ∀ i o, V1.H[i]? = some o → V2.H[σ i]? = some (o.ren σ)

theorem PRep.sameV {w w' : World} {M M' : Nat → Prop} (hw : w' = w) (hM : ∀ b, M' b → M b) {x : AV} {v : Value} (h : PRep w M x v) : PRep w' M' x v := by
  subst hw
  exact h.step fun b _ hn => ⟨rfl, fun hm => hn (hM b hm)⟩

section
variable {V1 V2 : View} {σ : Nat → Nat} (hk : Lk V1 V2 σ)
 include hk

theorem KindOk.fwd {f : AObj → Bool} (hf : ∀ o, f (AObj.ren σ o) = f o) {id : Nat} (h : KindOk f V1 id) : KindOk f V2 (σ id) ∧ V2.ρ (σ id) = V1.ρ id := by
  have hlt := h.lt
  obtain ⟨o, ho, hfo⟩ := h
  exact ⟨⟨_, hk.obj id o ho, (hf o).trans hfo⟩, hk.ρ id hlt⟩
theorem KindOk.bwd {f : AObj → Bool} (hf : ∀ o, f (AObj.ren σ o) = f o) {id : Nat} (hlt : id < V1.H.length) (h : KindOk f V2 (σ id)) : KindOk f V1 id ∧ V2.ρ (σ id) = V1.ρ id := by
  obtain ⟨o, ho, hfo⟩ := h
  have hg : V1.H[id]? = some V1.H[id] := List.getElem?_eq_getElem hlt
  have := hk.obj id _ hg
  rw [ho] at this
  injection this with e
  exact ⟨⟨_, hg, by rw [← hf, ← e]; exact hfo⟩, hk.ρ id hlt⟩

 omit hk in
theorem isBox_ren (o : AObj) : AObj.isBox (o.ren σ) = o.isBox := by cases o <;> rfl
 omit hk in
theorem isMap_ren (o : AObj) : AObj.isMap (o.ren σ) = o.isMap := by cases o <;> rfl
 omit hk in
theorem isRng_ren (o : AObj) : AObj.isRng (o.ren σ) = o.isRng := by cases o <;> rfl

 omit hk in
theorem open_ren (o : AObj) : AObj.open_ (o.ren σ) = o.open_ := by cases o <;> rfl

theorem OwnRep.iff {id sz off len : Nat} {v : Value} (hlt : id < V1.H.length) : OwnRep V2 (σ id) sz off len v ↔ OwnRep V1 id sz off len v := by
  unfold OwnRep; rw [hk.ρ id hlt, hk.w]

theorem OwnOk.iff {id gen off len : Nat} {v : Value} (hlt : id < V1.H.length) : OwnOk V2 (σ id) gen off len v ↔ OwnOk V1 id gen off len v := by
  have hg : V1.H[id]? = some V1.H[id] := List.getElem?_eq_getElem hlt
  have h2 := hk.obj id _ hg
  unfold OwnOk
  rw [h2, hg]
  cases V1.H[id] <;> simp only [AObj.ren]
  rw [OwnRep.iff hk hlt]
theorem AptOk.iff {id gen k j : Nat} {v : Value} (hlt : id < V1.H.length) : AptOk V2 (σ id) gen k j v ↔ AptOk V1 id gen k j v := by
  have hg : V1.H[id]? = some V1.H[id] := List.getElem?_eq_getElem hlt
  have h2 := hk.obj id _ hg
  unfold AptOk
  rw [h2, hg]
  cases V1.H[id] <;> simp only [AObj.ren]
  rw [hk.ρ id hlt]
 omit hk in
theorem OwnOk.lt {V : View} {id gen off len : Nat} {v : Value} (h : OwnOk V id gen off len v) : id < V.H.length := by
  unfold OwnOk at h
  rcases Nat.lt_or_ge id V.H.length with hl | hl
  · exact hl
  · rw [List.getElem?_eq_none hl] at h; exact h.2.elim
 omit hk in
theorem AptOk.lt {V : View} {id gen k j : Nat} {v : Value} (h : AptOk V id gen k j v) : id < V.H.length := by
  unfold AptOk at h
  rcases Nat.lt_or_ge id V.H.length with hl | hl
  · exact hl
  · rw [List.getElem?_eq_none hl] at h; exact h.2.elim

theorem Rep.ofPrep_ren {y : AV} {v : Value} (h : PRep V1.w V1.M y v) : Rep V2 (y.ren σ) v := by
  induction h with
  | lit v => exact .pure _ _ (.lit v)
  | imm cs a vs hs hb hc hr _ => exact .pure _ _ ((PRep.imm cs a vs hs hb hc hr).sameV hk.w fun b => (hk.M b).1)
  | sl sz t xs A cap b o vs hA hb hcap ht hsz hc ho hr _ => exact .pure _ _ ((PRep.sl sz t xs A cap b o vs hA hb hcap ht hsz hc ho hr).sameV hk.w fun b => (hk.M b).1)
  | agg cs vs hl _ ih => exact .agg _ vs (by rw [renL_length]; exact hl) fun j hj => by rw [renL_getD]; exact ih j (by rw [renL_length] at hj; exact hj)
  | tup cs vs hl _ ih => exact .tup _ vs (by rw [renL_length]; exact hl) fun j hj => by rw [renL_getD]; exact ih j (by rw [renL_length] at hj; exact hj)
  | ifc t x v _ ih => exact .ifc t _ v ih
  | fn f as bs us vs hu hv _ _ iha ihb =>
    exact .fn f _ _ us vs (by rw [renL_length]; exact hu) (by rw [renL_length]; exact hv)
      (fun j hj => by rw [renL_getD]; exact iha j (by rw [renL_length] at hj; exact hj)) (fun j hj => by rw [renL_getD]; exact ihb j (by rw [renL_length] at hj; exact hj))

theorem Rep.fwd {x : AV} {v : Value} (h : Rep V1 x v) : Rep V2 (x.ren σ) v := by
  induction h with
  | pure x v h => exact Rep.ofPrep_ren hk h
  | dead v => exact .dead v
  | ptr id off h => obtain ⟨h1, h2⟩ := KindOk.fwd hk isBox_ren h; rw [← h2]; exact .ptr _ off h1
  | apt id g k j v h => exact .apt _ g k j v ((AptOk.iff hk h.lt).2 h)
  | own id g off len v h => exact .own _ g off len v ((OwnOk.iff hk h.lt).2 h)
  | mp id h => obtain ⟨h1, h2⟩ := KindOk.fwd hk isMap_ren h; rw [← h2]; exact .mp _ h1
  | yl id h => obtain ⟨h1, h2⟩ := KindOk.fwd hk isRng_ren h; rw [← h2]; exact .yl _ h1
  | agg cs vs hl _ ih => exact .agg _ vs (by rw [renL_length]; exact hl) fun j hj => by rw [renL_getD]; exact ih j (by rw [renL_length] at hj; exact hj)
  | tup cs vs hl _ ih => exact .tup _ vs (by rw [renL_length]; exact hl) fun j hj => by rw [renL_getD]; exact ih j (by rw [renL_length] at hj; exact hj)
  | ifc t x v _ ih => exact .ifc t _ v ih
  | fn f as bs us vs hu hv _ _ iha ihb =>
    exact .fn f _ _ us vs (by rw [renL_length]; exact hu) (by rw [renL_length]; exact hv)
      (fun j hj => by rw [renL_getD]; exact iha j (by rw [renL_length] at hj; exact hj)) (fun j hj => by rw [renL_getD]; exact ihb j (by rw [renL_length] at hj; exact hj))

theorem Rep.bwdP {y : AV} {v : Value} (h : PRep V2.w V2.M y v) : ∀ x, y = x.ren σ → x.idsLt V1.H.length = true → Rep V1 x v := by
  have hw' : V1.w = V2.w := hk.w.symm
  have hM' : ∀ b, V1.M b → V2.M b := fun b => (hk.M b).2
  induction h with
  | lit v => intro x hx _; cases x <;> simp only [AV.ren] at hx <;> first | (cases hx; done) | (injection hx with e; subst e; exact .pure _ _ (.lit _))
  | imm cs a vs hs hb hc hr _ => intro x hx _; cases x <;> simp only [AV.ren] at hx <;> first | (cases hx; done) | (injection hx with e; subst e; exact .pure _ _ ((PRep.imm _ a vs hs hb hc hr).sameV hw' hM'))
  | sl sz t xs A cap b o vs hA hb hcap ht hsz hc ho hr _ =>
    intro x hx _; cases x <;> simp only [AV.ren] at hx <;> first | (cases hx; done) | (injection hx with e1 e2 e3; subst e1 e2 e3; exact .pure _ _ ((PRep.sl _ _ _ A cap b o vs hA hb hcap ht hsz hc ho hr).sameV hw' hM'))
  | agg cs vs hl _ ih =>
    intro x hx hi; cases x <;> simp only [AV.ren] at hx <;> first | (cases hx; done) | skip
    injection hx with e; subst e
    simp only [AV.idsLt] at hi
    rw [renL_length] at hl
    exact .agg _ vs hl fun j hj => ih j (by rw [renL_length]; exact hj) _ (renL_getD σ _ j) (idsLtL_getD j hi hj)
  | tup cs vs hl _ ih =>
    intro x hx hi; cases x <;> simp only [AV.ren] at hx <;> first | (cases hx; done) | skip
    injection hx with e; subst e
    simp only [AV.idsLt] at hi
    rw [renL_length] at hl
    exact .tup _ vs hl fun j hj => ih j (by rw [renL_length]; exact hj) _ (renL_getD σ _ j) (idsLtL_getD j hi hj)
  | ifc t x v _ ih =>
    intro x hx hi; cases x <;> simp only [AV.ren] at hx <;> first | (cases hx; done) | skip
    injection hx with e1 e2; subst e1 e2
    simp only [AV.idsLt] at hi
    exact .ifc _ _ v (ih _ rfl hi)
  | fn f as bs us vs hu hv _ _ iha ihb =>
    intro x hx hi; cases x <;> simp only [AV.ren] at hx <;> first | (cases hx; done) | skip
    injection hx with e1 e2 e3; subst e1 e2 e3
    simp only [AV.idsLt, Bool.and_eq_true] at hi
    rw [renL_length] at hu hv
    exact .fn _ _ _ us vs hu hv (fun j hj => iha j (by rw [renL_length]; exact hj) _ (renL_getD σ _ j) (idsLtL_getD j hi.1 hj))
      (fun j hj => ihb j (by rw [renL_length]; exact hj) _ (renL_getD σ _ j) (idsLtL_getD j hi.2 hj))

theorem Rep.bwd {y : AV} {v : Value} (h : Rep V2 y v) : ∀ x, y = x.ren σ → x.idsLt V1.H.length = true → Rep V1 x v := by
  induction h with
  | pure y v h => exact Rep.bwdP hk h
  | dead v => intro x hx _; cases x <;> simp only [AV.ren] at hx <;> first | (cases hx; done) | exact .dead v
  | ptr id off h =>
    intro x hx hi; cases x <;> simp only [AV.ren] at hx <;> first | (cases hx; done) | skip
    injection hx with e1 e2; subst e1 e2
    simp only [AV.idsLt, Nat.blt_eq] at hi
    obtain ⟨h1, h2⟩ := KindOk.bwd hk isBox_ren hi h
    rw [h2]; exact .ptr _ _ h1
  | apt id g k j v h =>
    intro x hx hi; cases x <;> simp only [AV.ren] at hx <;> first | (cases hx; done) | skip
    injection hx with e1 e2 e3 e4; subst e1 e2 e3 e4
    simp only [AV.idsLt, Nat.blt_eq] at hi
    exact .apt _ _ _ _ v ((AptOk.iff hk hi).1 h)
  | own id g off len v h =>
    intro x hx hi; cases x <;> simp only [AV.ren] at hx <;> first | (cases hx; done) | skip
    injection hx with e1 e2 e3 e4; subst e1 e2 e3 e4
    simp only [AV.idsLt, Nat.blt_eq] at hi
    exact .own _ _ _ _ v ((OwnOk.iff hk hi).1 h)
  | mp id h =>
    intro x hx hi; cases x <;> simp only [AV.ren] at hx <;> first | (cases hx; done) | skip
    injection hx with e1; subst e1
    simp only [AV.idsLt, Nat.blt_eq] at hi
    obtain ⟨h1, h2⟩ := KindOk.bwd hk isMap_ren hi h
    rw [h2]; exact .mp _ h1
  | yl id h =>
    intro x hx hi; cases x <;> simp only [AV.ren] at hx <;> first | (cases hx; done) | skip
    injection hx with e1; subst e1
    simp only [AV.idsLt, Nat.blt_eq] at hi
    obtain ⟨h1, h2⟩ := KindOk.bwd hk isRng_ren hi h
    rw [h2]; exact .yl _ h1
  | agg cs vs hl _ ih =>
    intro x hx hi; cases x <;> simp only [AV.ren] at hx <;> first | (cases hx; done) | skip
    injection hx with e; subst e
    simp only [AV.idsLt] at hi
    rw [renL_length] at hl
    exact .agg _ vs hl fun j hj => ih j (by rw [renL_length]; exact hj) _ (renL_getD σ _ j) (idsLtL_getD j hi hj)
  | tup cs vs hl _ ih =>
    intro x hx hi; cases x <;> simp only [AV.ren] at hx <;> first | (cases hx; done) | skip
    injection hx with e; subst e
    simp only [AV.idsLt] at hi
    rw [renL_length] at hl
    exact .tup _ vs hl fun j hj => ih j (by rw [renL_length]; exact hj) _ (renL_getD σ _ j) (idsLtL_getD j hi hj)
  | ifc t x v _ ih =>
    intro x hx hi; cases x <;> simp only [AV.ren] at hx <;> first | (cases hx; done) | skip
    injection hx with e1 e2; subst e1 e2
    simp only [AV.idsLt] at hi
    exact .ifc _ _ v (ih _ rfl hi)
  | fn f as bs us vs hu hv _ _ iha ihb =>
    intro x hx hi; cases x <;> simp only [AV.ren] at hx <;> first | (cases hx; done) | skip
    injection hx with e1 e2 e3; subst e1 e2 e3
    simp only [AV.idsLt, Bool.and_eq_true] at hi
    rw [renL_length] at hu hv
    exact .fn _ _ _ us vs hu hv (fun j hj => iha j (by rw [renL_length]; exact hj) _ (renL_getD σ _ j) (idsLtL_getD j hi.1 hj))
      (fun j hj => ihb j (by rw [renL_length]; exact hj) _ (renL_getD σ _ j) (idsLtL_getD j hi.2 hj))

theorem Reps.fwd {xs : List AV} {vs : List Value} (h : Reps V1 xs vs) : Reps V2 (AV.renL σ xs) vs :=
  ⟨by rw [renL_length]; exact h.1, fun j hj => by rw [renL_getD]; exact (h.2 j (by rw [renL_length] at hj; exact hj)).fwd hk⟩
theorem Reps.bwd {xs : List AV} {vs : List Value} (hi : AV.idsLtL V1.H.length xs = true) (h : Reps V2 (AV.renL σ xs) vs) : Reps V1 xs vs :=
  ⟨by have := h.1; rw [renL_length] at this; exact this, fun j hj => by
    have := h.2 j (by rw [renL_length]; exact hj)
    exact this.bwd hk _ (renL_getD σ xs j) (idsLtL_getD j hi hj)⟩

 omit hk in
theorem map_renL_getD (xs : List (List AV)) (k : Nat) : (xs.map (AV.renL σ)).getD k [] = AV.renL σ (xs.getD k []) := by
  rw [List.getD_eq_getElem?_getD, List.getD_eq_getElem?_getD, List.getElem?_map]
  cases xs[k]? <;> simp [AV.renL]

theorem ObjRep.fwd {b : Nat} {o : AObj} (h : ObjRep V1 b o) : ObjRep V2 b (o.ren σ) := by
  cases o with
  | box cells => obtain ⟨t, vs, h1, h2⟩ := h; exact ⟨t, vs, by rw [hk.w]; exact h1, h2.fwd hk⟩
  | arr g sz fz xs =>
    obtain ⟨t, c, h1, h2, h3, h4⟩ := h
    refine ⟨t, c, by rw [hk.w]; exact h1, by simpa using h2, ?_, fun k j hk' hj => ?_⟩
    · intro x hx
      obtain ⟨y, hy, rfl⟩ := List.mem_map.1 hx
      rw [renL_length]; exact h3 y hy
    · obtain ⟨v, hv, h1, hr⟩ := h4 k j (by simpa using hk') hj
      exact ⟨v, hv, h1, by rw [map_renL_getD, renL_getD]; exact hr.fwd hk⟩
  | map es => exact h
  | rng st p env ps as bd => obtain ⟨fn, vs, D, h1, h2⟩ := h; exact ⟨fn, vs, D, by rw [hk.w]; exact h1, h2.fwd hk⟩
  | dfd => show V2.w.heap[b]? = _; rw [hk.w]; exact h
  | gone => trivial
theorem ObjRep.bwd {b : Nat} {o : AObj} (hi : o.idsLt V1.H.length) (h : ObjRep V2 b (o.ren σ)) : ObjRep V1 b o := by
  cases o with
  | box cells => obtain ⟨t, vs, h1, h2⟩ := h; exact ⟨t, vs, by rw [← hk.w]; exact h1, h2.bwd hk hi⟩
  | arr g sz fz xs =>
    obtain ⟨t, c, h1, h2, h3, h4⟩ := h
    refine ⟨t, c, by rw [← hk.w]; exact h1, by simpa using h2, ?_, fun k j hk' hj => ?_⟩
    · intro x hx
      have := h3 _ (List.mem_map.2 ⟨x, hx, rfl⟩)
      rw [renL_length] at this; exact this
    · obtain ⟨v, hv, ho1, hr⟩ := h4 k j (by simpa using hk') hj
      rw [map_renL_getD, renL_getD] at hr
      have hx : xs.getD k [] ∈ xs := by rw [List.getD_eq_getElem?_getD, List.getElem?_eq_getElem hk']; exact List.getElem_mem hk'
      have hlen : (xs.getD k []).length = sz := by
        have := h3 _ (List.mem_map.2 ⟨_, hx, rfl⟩)
        rw [renL_length] at this; exact this
      exact ⟨v, hv, ho1, hr.bwd hk _ rfl (idsLtL_getD j (hi _ hx) (by omega))⟩
  | map es => exact h
  | rng st p env ps as bd => obtain ⟨fn, vs, D, h1, h2⟩ := h; exact ⟨fn, vs, D, by rw [← hk.w]; exact h1, h2.bwd hk hi⟩
  | dfd => show V1.w.heap[b]? = _; rw [← hk.w]; exact h
  | gone => trivial

/-- A heap under other numbers, drawn back. -/
theorem HeapRep.bwd {G : Nat → Option (List AV)} (h : HeapRep G V2) (hi : ∀ (i : Nat) (o : AObj), V1.H[i]? = some o → o.idsLt V1.H.length)
    (hinj : ∀ i j, i < V1.H.length → j < V1.H.length → σ i = σ j → i = j) : HeapRep G V1 where
  lt id hid := by
    have := hk.obj id _ (List.getElem?_eq_getElem hid)
    have := h.lt (σ id) (List.getElem?_eq_some_iff.1 this).1
    rwa [hk.ρ id hid, hk.w] at this
  obj id o ho := by
    have hlt := (List.getElem?_eq_some_iff.1 ho).1
    have := h.obj (σ id) _ (hk.obj id o ho)
    rw [hk.ρ id hlt] at this
    exact this.bwd hk (hi id o ho)
  inj i j hi' hj' e := by
    rw [← hk.ρ i hi', ← hk.ρ j hj'] at e
    exact hinj i j hi' hj' (h.inj _ _ (List.getElem?_eq_some_iff.1 (hk.obj i _ (List.getElem?_eq_getElem hi'))).1 (List.getElem?_eq_some_iff.1 (hk.obj j _ (List.getElem?_eq_getElem hj'))).1 e)
  mutb id o ho hop := by
    have hlt := (List.getElem?_eq_some_iff.1 ho).1
    have := h.mutb (σ id) _ (hk.obj id o ho) (by rw [open_ren]; exact hop)
    rw [hk.ρ id hlt] at this
    exact (hk.M _).1 this
  glob g cs hg := (h.glob g cs hg).sameV hk.w.symm fun b => (hk.M b).2
end

/-- The objects os are laid back under the numbers e. -/
def putBack (σ : Nat → Nat) : List Nat → List AObj → List AObj → List AObj
  | [], _, H => H
  | _ :: _, [], H => H
  | id :: e, o :: os, H => putBack σ e os (H.set id (o.ren σ))
/-- The numbers of a callee's objects at its caller: the first ones those of e, the others behind all of the caller's. -/
def upto (e : List Nat) (n : Nat) (i : Nat) : Nat := if i < e.length then e.getD i 0 else n + (i - e.length)
def backHeap (e : List Nat) (H Hs : List AObj) : List AObj := putBack (upto e H.length) e Hs H ++ (Hs.drop e.length).map (AObj.ren (upto e H.length))

theorem putBack_length (σ : Nat → Nat) : ∀ (e : List Nat) (os H : List AObj), (putBack σ e os H).length = H.length
  | [], _, H => rfl
  | _ :: _, [], H => rfl
  | id :: e, o :: os, H => by rw [putBack, putBack_length σ e os]; simp
theorem putBack_other (σ : Nat → Nat) : ∀ (e : List Nat) (os H : List AObj) (id : Nat), id ∉ e → (putBack σ e os H)[id]? = H[id]?
  | [], _, H, id, _ => rfl
  | _ :: _, [], H, id, _ => rfl
  | a :: e, o :: os, H, id, h => by
    rw [putBack, putBack_other σ e os _ id (fun h' => h (by simp [h']))]
    rw [List.getElem?_set_ne (fun e' => h (by simp [e']))]
theorem putBack_same (σ : Nat → Nat) : ∀ (e : List Nat) (os H : List AObj), e.Nodup → (∀ a ∈ e, a < H.length) → e.length ≤ os.length → ∀ (i : Nat) (o : AObj), i < e.length → os[i]? = some o →
    (putBack σ e os H)[e.getD i 0]? = some (o.ren σ)
  | [], _, H, _, _, _, i, o, hi, _ => absurd hi (by simp)
  | _ :: _, [], H, _, _, hl, i, o, hi, _ => absurd hl (by simp)
  | a :: e, o' :: os, H, hnd, hlt, hl, i, o, hi, ho => by
    rw [putBack]
    cases i with
    | zero =>
      simp only [List.getElem?_cons_zero, Option.some.injEq] at ho
      subst ho
      rw [List.getD_cons_zero, putBack_other σ e os _ a (List.nodup_cons.1 hnd).1]
      rw [List.getElem?_set_self (hlt a (by simp))]
    | succ i =>
      rw [List.getD_cons_succ]
      exact putBack_same σ e os _ (List.nodup_cons.1 hnd).2 (fun b hb => by rw [List.length_set]; exact hlt b (by simp [hb])) (by simpa using hl) i o (by simpa using hi) (by simpa using ho)

def posOf : List Nat → Nat → Option Nat
  | [], _ => none
  | a :: e, id => if a = id then some 0 else (posOf e id).map (· + 1)
theorem posOf_some : ∀ {e : List Nat} {id i : Nat}, posOf e id = some i → i < e.length ∧ e.getD i 0 = id
  | [], _, _, h => by simp [posOf] at h
  | a :: e, id, i, h => by
    unfold posOf at h
    split at h
    · cases h; simp [*]
    · cases hp : posOf e id with
      | none => simp [hp] at h
      | some k =>
        simp [hp] at h
        subst h
        obtain ⟨h1, h2⟩ := posOf_some hp
        exact ⟨by simpa using h1, by simpa using h2⟩
theorem posOf_none : ∀ {e : List Nat} {id : Nat}, posOf e id = none → id ∉ e
  | [], _, _ => by simp
  | a :: e, id, h => by
    unfold posOf at h
    split at h
    · cases h
    · rename_i hne
      have : posOf e id = none := by simpa using h
      simp only [List.mem_cons, not_or]
      exact ⟨fun e' => hne e'.symm, posOf_none this⟩
theorem posOf_getD : ∀ {e : List Nat} {i : Nat}, e.Nodup → i < e.length → posOf e (e.getD i 0) = some i
  | [], i, _, hi => absurd hi (by simp)
  | a :: e, 0, _, _ => by simp [posOf]
  | a :: e, i + 1, hn, hi => by
    have hi' : i < e.length := by simpa using hi
    have hmem : e.getD i 0 ∈ e := by rw [List.getD_eq_getElem?_getD, List.getElem?_eq_getElem hi']; exact List.getElem_mem hi'
    have hne : a ≠ e.getD i 0 := fun h => (List.nodup_cons.1 hn).1 (h ▸ hmem)
    rw [List.getD_cons_succ]
    unfold posOf
    rw [if_neg hne, posOf_getD (List.nodup_cons.1 hn).2 hi']
    rfl

theorem ObjStep.lift {V1 V1' V V' : View} {σ σ' : Nat → Nat} {i j : Nat} (h : ObjStep V1 V1' i) (hw : V.w = V1.w) (hw' : V'.w = V1'.w) (hρ : V.ρ j = V1.ρ i) (hρ' : V'.ρ j = V1'.ρ i)
    (hH : V.H[j]? = (V1.H[i]?).map (AObj.ren σ)) (hH' : V'.H[j]? = (V1'.H[i]?).map (AObj.ren σ')) : ObjStep V V' j := by
  unfold ObjStep at *
  rw [hH, hH']
  cases h1 : V1.H[i]? with
  | none => simp [h1] at h
  | some o =>
    cases h2 : V1'.H[i]? with
    | none => rw [h1, h2] at h; cases o <;> exact h.elim
    | some o' =>
      rw [h1, h2] at h
      cases o <;> cases o' <;> simp only [Option.map_some, AObj.ren] at h ⊢ <;> first
        | exact h.elim
        | trivial
        | (rw [hρ, hρ']; exact h)
        | (rw [hρ, hρ', hw, hw']; exact h)

/-- A callee's step over its own objects alone is a step of its caller's. -/
theorem frame {G : Nat → Option (List AV)} {V V1' : View} {e : List Nat} {Hs : List AObj} (hG : HeapRep G V) (hnd : e.Nodup) (hlt : ∀ a ∈ e, a < V.H.length) (hlen : Hs.length = e.length)
    (hobj : ∀ (i : Nat) (o : AObj), Hs[i]? = some o → V.H[e.getD i 0]? = some (o.ren fun i => e.getD i 0))
    (hs : Step { w := V.w, M := V.M, H := Hs, ρ := fun i => V.ρ (e.getD i 0) } V1') (hG1 : HeapRep G V1') :
    ∃ V', V'.w = V1'.w ∧ V'.M = V1'.M ∧ V'.H = backHeap e V.H V1'.H ∧ Step V V' ∧ HeapRep G V' ∧ Lk V1' V' (upto e V.H.length) := by
  have hle : e.length ≤ V1'.H.length := by have := hs.hlen; simp only [hlen] at this; exact this
  have hmem : ∀ i, i < e.length → e.getD i 0 ∈ e := fun i hi => by rw [List.getD_eq_getElem?_getD, List.getElem?_eq_getElem hi]; exact List.getElem_mem hi
  let ρ' : Nat → Nat := fun id => if id < V.H.length then (match posOf e id with | some i => V1'.ρ i | none => V.ρ id) else V1'.ρ (e.length + (id - V.H.length))
  let V' : View := { w := V1'.w, M := V1'.M, H := backHeap e V.H V1'.H, ρ := ρ' }
  have ρe : ∀ i, i < e.length → ρ' (e.getD i 0) = V1'.ρ i := fun i hi => by
    show (if _ then _ else _) = _
    rw [if_pos (hlt _ (hmem i hi)), posOf_getD hnd hi]
  have ρo : ∀ id, id < V.H.length → id ∉ e → ρ' id = V.ρ id := fun id hid hn => by
    show (if _ then _ else _) = _
    rw [if_pos hid]
    cases hp : posOf e id with
    | none => rfl
    | some i => obtain ⟨h1, h2⟩ := posOf_some hp; exact absurd (h2 ▸ hmem i h1) hn
  have ρn : ∀ k, ρ' (V.H.length + k) = V1'.ρ (e.length + k) := fun k => by
    show (if _ then _ else _) = _
    rw [if_neg (by omega)]; congr 2; omega
  have hlenH : (backHeap e V.H V1'.H).length = V.H.length + (V1'.H.length - e.length) := by simp [backHeap, putBack_length]
  have He : ∀ i o, i < e.length → V1'.H[i]? = some o → V'.H[e.getD i 0]? = some (o.ren (upto e V.H.length)) := fun i o hi ho => by
    show (backHeap e V.H V1'.H)[_]? = _
    unfold backHeap
    rw [List.getElem?_append_left (by rw [putBack_length]; exact hlt _ (hmem i hi))]
    exact putBack_same _ e V1'.H V.H hnd hlt hle i o hi ho
  have Ho : ∀ id, id < V.H.length → id ∉ e → V'.H[id]? = V.H[id]? := fun id hid hn => by
    show (backHeap e V.H V1'.H)[_]? = _
    unfold backHeap
    rw [List.getElem?_append_left (by rw [putBack_length]; exact hid)]
    exact putBack_other _ e V1'.H V.H id hn
  have Hn : ∀ k, V'.H[V.H.length + k]? = (V1'.H[e.length + k]?).map (AObj.ren (upto e V.H.length)) := fun k => by
    show (backHeap e V.H V1'.H)[_]? = _
    unfold backHeap
    rw [List.getElem?_append_right (by rw [putBack_length]; omega), putBack_length, List.getElem?_map, List.getElem?_drop]
    congr 2; omega
  have split : ∀ id, id < V'.H.length → (∃ i, i < e.length ∧ id = e.getD i 0) ∨ (id < V.H.length ∧ id ∉ e) ∨ ∃ k, id = V.H.length + k ∧ e.length + k < V1'.H.length := fun id hid => by
    have hid' : id < V.H.length + (V1'.H.length - e.length) := by rw [← hlenH]; exact hid
    by_cases h1 : id < V.H.length
    · cases hp : posOf e id with
      | none => exact .inr (.inl ⟨h1, posOf_none hp⟩)
      | some i => obtain ⟨h2, h3⟩ := posOf_some hp; exact .inl ⟨i, h2, h3.symm⟩
    · exact .inr (.inr ⟨id - V.H.length, by omega, by omega⟩)
  have fr1 : ∀ i, i < e.length → V1'.ρ i = V.ρ (e.getD i 0) ∨ V.w.heap.size ≤ V1'.ρ i := fun i hi => by
    rcases hs.fresh i (by omega) with ⟨_, h⟩ | h
    · exact .inl h
    · exact .inr h
  have fr2 : ∀ k, e.length + k < V1'.H.length → V.w.heap.size ≤ V1'.ρ (e.length + k) := fun k hk => by
    rcases hs.fresh _ hk with ⟨h, _⟩ | h
    · simp only [hlen] at h; omega
    · exact h
  have old : ∀ id, id < V.H.length → id ∉ e → ∀ i, i < Hs.length → V.ρ (e.getD i 0) ≠ V.ρ id := fun id hid hn i hi heq => by
    have := hG.inj _ _ (hlt _ (hmem i (by omega))) hid heq
    exact hn (this ▸ hmem i (by omega))
  have hk : Lk V1' V' (upto e V.H.length) := {
    w := rfl
    M := fun _ => Iff.rfl
    ρ := fun i hi => by
      show ρ' (if i < e.length then _ else _) = _
      by_cases h : i < e.length
      · rw [if_pos h]; exact ρe i h
      · rw [if_neg h, ρn]; congr 1; omega
    obj := fun i o ho => by
      show V'.H[if i < e.length then _ else _]? = _
      by_cases h : i < e.length
      · rw [if_pos h]; exact He i o h ho
      · rw [if_neg h, Hn, show e.length + (i - e.length) = i by omega, ho]; rfl }
  have hst : Step V V' := {
    os := hs.os
    tape := hs.tape
    output := hs.output
    size := hs.size
    keep := fun b hb hn => hs.keep b hb fun i hi => hn _ (hlt _ (hmem i (by simp only [hlen] at hi; exact hi)))
    data := hs.data
    hlen := by show _ ≤ (backHeap e V.H V1'.H).length; rw [hlenH]; omega
    fresh := fun id hid => by
      rcases split id hid with ⟨i, hi, rfl⟩ | ⟨h1, h2⟩ | ⟨k, rfl, hk'⟩
      · show (_ ∧ ρ' _ = _) ∨ _ ≤ ρ' _
        rw [ρe i hi]
        exact (fr1 i hi).imp (fun h => ⟨hlt _ (hmem i hi), h⟩) id
      · exact .inl ⟨h1, ρo id h1 h2⟩
      · right; show _ ≤ ρ' _; rw [ρn]; exact fr2 k hk'
    obj := fun id hid => by
      by_cases hmem' : id ∈ e
      · obtain ⟨i, hi, rfl⟩ : ∃ i, i < e.length ∧ id = e.getD i 0 := by
          cases hp : posOf e id with
          | none => exact absurd hmem' (posOf_none hp)
          | some i => obtain ⟨h2, h3⟩ := posOf_some hp; exact ⟨i, h2, h3.symm⟩
        refine (hs.obj i (by simp only [hlen]; exact hi)).lift (σ := fun i => e.getD i 0) (σ' := upto e V.H.length) rfl rfl rfl (ρe i hi) ?_ ?_
        · have hg : Hs[i]? = some (Hs[i]'(by omega)) := List.getElem?_eq_getElem _
          simp only [hg]; exact hobj i _ hg
        · have hg : V1'.H[i]? = some (V1'.H[i]'(by omega)) := List.getElem?_eq_getElem _
          rw [hg]; exact He i _ hi hg
      · exact .refl hid (Ho id hid hmem') (ρo id hid hmem') (hs.keep _ (hG.lt id hid) fun i hi => old id hid hmem' i hi).1 }
  refine ⟨V', rfl, rfl, rfl, hst, ?_, hk⟩
  exact {
    lt := fun id hid => by
      rcases split id hid with ⟨i, hi, rfl⟩ | ⟨h1, h2⟩ | ⟨k, rfl, hk'⟩
      · show ρ' _ < _; rw [ρe i hi]; exact hG1.lt i (by omega)
      · show ρ' _ < _; rw [ρo id h1 h2]; exact Nat.lt_of_lt_of_le (hG.lt id h1) hs.size
      · show ρ' _ < _; rw [ρn]; exact hG1.lt _ hk'
    obj := fun id o ho => by
      rcases split id (List.getElem?_eq_some_iff.1 ho).1 with ⟨i, hi, rfl⟩ | ⟨h1, h2⟩ | ⟨k, rfl, hk'⟩
      · have hg : V1'.H[i]? = some (V1'.H[i]'(by omega)) := List.getElem?_eq_getElem _
        rw [He i _ hi hg] at ho
        injection ho with ho; subst ho
        show ObjRep V' (ρ' _) _
        rw [ρe i hi]
        exact (hG1.obj i _ hg).fwd hk
      · rw [Ho id h1 h2] at ho
        show ObjRep V' (ρ' _) _
        rw [ρo id h1 h2]
        exact (hG.obj id o ho).step hst (hs.keep _ (hG.lt id h1) fun i hi => old id h1 h2 i hi).1
      · have hg : V1'.H[e.length + k]? = some V1'.H[e.length + k] := List.getElem?_eq_getElem _
        rw [Hn, hg] at ho
        injection ho with ho; subst ho
        show ObjRep V' (ρ' _) _
        rw [ρn]
        exact (hG1.obj _ _ hg).fwd hk
    inj := fun i j hi hj heq => by
      have heq' : ρ' i = ρ' j := heq
      rcases split i hi with ⟨a, ha, rfl⟩ | ⟨h1, h2⟩ | ⟨a, rfl, ha⟩ <;> rcases split j hj with ⟨b, hb, rfl⟩ | ⟨h3, h4⟩ | ⟨b, rfl, hb⟩
      · rw [ρe a ha, ρe b hb] at heq'
        rw [hG1.inj a b (by omega) (by omega) heq']
      · rw [ρe a ha, ρo j h3 h4] at heq'
        rcases fr1 a ha with h | h
        · rw [h] at heq'; exact absurd heq' (old j h3 h4 a (by omega))
        · have := hG.lt j h3; omega
      · rw [ρe a ha, ρn] at heq'
        have := hG1.inj a _ (by omega) hb heq'; omega
      · rw [ρe b hb, ρo i h1 h2] at heq'
        rcases fr1 b hb with h | h
        · rw [h] at heq'; exact absurd heq'.symm (old i h1 h2 b (by omega))
        · have := hG.lt i h1; omega
      · rw [ρo i h1 h2, ρo j h3 h4] at heq'; exact hG.inj i j h1 h3 heq'
      · rw [ρo i h1 h2, ρn] at heq'; have := hG.lt i h1; have := fr2 b hb; omega
      · rw [ρn, ρe b hb] at heq'
        have := hG1.inj _ b ha (by omega) heq'; omega
      · rw [ρn, ρo j h3 h4] at heq'; have := hG.lt j h3; have := fr2 a ha; omega
      · rw [ρn, ρn] at heq'
        have := hG1.inj _ _ ha hb heq'; omega
    mutb := fun id o ho hop => by
      rcases split id (List.getElem?_eq_some_iff.1 ho).1 with ⟨i, hi, rfl⟩ | ⟨h1, h2⟩ | ⟨k, rfl, hk'⟩
      · have hg : V1'.H[i]? = some (V1'.H[i]'(by omega)) := List.getElem?_eq_getElem _
        rw [He i _ hi hg] at ho
        injection ho with ho; subst ho
        show V1'.M (ρ' _)
        rw [ρe i hi]
        exact hG1.mutb i _ hg (by rw [open_ren] at hop; exact hop)
      · rw [Ho id h1 h2] at ho
        show V1'.M (ρ' _)
        rw [ρo id h1 h2]
        exact ((hs.keep _ (hG.lt id h1) fun i hi => old id h1 h2 i hi).2).2 (hG.mutb id o ho hop)
      · have hg : V1'.H[e.length + k]? = some V1'.H[e.length + k] := List.getElem?_eq_getElem _
        rw [Hn, hg] at ho
        injection ho with ho; subst ho
        show V1'.M (ρ' _)
        rw [ρn]
        exact hG1.mutb _ _ hg (by rw [open_ren] at hop; exact hop)
    glob := hG1.glob }
end Go.Am
