/- THE ABSTRACT MACHINE, 12: contracts of functions; a call in its caller's heap. -/
import Derived.Test.YtbmimjjhifjofaaAm11
import Derived.RangeFuncCalls
namespace Go.Am
open Go

def AOut.ren (σ : Nat → Nat) : AOut → AOut
  | .ret x => .ret (x.ren σ)
  | .pan x => .pan (x.ren σ)
def OutRep (V : View) : AOut → Ending → Prop
  | .ret x, .returned v => Rep V x v
  | .pan x, .panicked chain => ∃ v, chain = [{ v := v, recovered := false }] ∧ Rep V x v
  | _, _ => False
def Goes (G : Nat → Option (List AV)) (V : View) (H' : List AObj) (out : AOut) (e : Ending) (w' : World) : Prop :=
  ∃ V' : View, V'.w = w' ∧ Step V V' ∧ HeapRep G V' ∧ V'.H = H' ∧ OutRep V' out e
/-- THE CONTRACT: called with args in the heap H, f ends in out, and leaves the heap H'. -/
def CallC (P : Program) (G : Nat → Option (List AV)) (f : FuncId) (args : List AV) (H : List AObj) (out : AOut) (H' : List AObj) : Prop :=
  ∀ (V : View) (vs : List Value), V.H = H → HeapRep G V → Reps V args vs → CallsIn Fence.wide 0 P f vs.toArray V.w (Goes G V H' out)

/-- The fence of an activation, or of a round's. -/
def fz (r : Option Nat) : Fence := { Fence.wide with round := r }
theorem fz_fn (r : Option Nat) (f : FuncId) : (fz r).fn f := trivial
theorem fz_depth (r : Option Nat) : (fz r).depth = none := rfl
theorem fz_wide : fz none = Fence.wide := rfl
theorem callsIn_fz {P : Program} {f : FuncId} {args : Array Value} {w : World} {R : Ending → World → Prop} (r : Option Nat) (h : CallsIn Fence.wide 0 P f args w R) : CallsIn (fz r) 0 P f args w R := by
  cases r with
  | none => exact h
  | some l => exact CallsIn.inRound l h

theorem OutRep.fwd {V1 V2 : View} {σ : Nat → Nat} (hk : Lk V1 V2 σ) {out : AOut} {e : Ending} (h : OutRep V1 out e) : OutRep V2 (out.ren σ) e := by
  cases out <;> cases e <;> simp only [OutRep, AOut.ren] at h ⊢
  · exact Rep.fwd hk h
  · obtain ⟨v, hv, hr⟩ := h; exact ⟨v, hv, Rep.fwd hk hr⟩

def at0 (e : List Nat) (i : Nat) : Nat := e.getD i 0
theorem at0_inj {e : List Nat} (h : e.Nodup) {i j : Nat} (hi : i < e.length) (hj : j < e.length) (he : at0 e i = at0 e j) : i = j := by
  unfold at0 at he
  have h1 := posOf_getD h hi
  have h2 := posOf_getD h hj
  rw [he, h2] at h1
  injection h1 with h1
  exact h1.symm

/-- A call, its callee's objects a part of the caller's. -/
theorem CallC.frame {P : Program} {G : Nat → Option (List AV)} {f : FuncId} {args : List AV} {Hs Hs' : List AObj} {out : AOut} (hc : CallC P G f args Hs out Hs') {V : View} (hG : HeapRep G V) {e : List Nat}
    (hnd : e.Nodup) (hlt : ∀ a ∈ e, a < V.H.length) (hlen : Hs.length = e.length) (hobj : ∀ (i : Nat) (o : AObj), Hs[i]? = some o → V.H[at0 e i]? = some (o.ren (at0 e)))
    (hids : ∀ (i : Nat) (o : AObj), Hs[i]? = some o → o.idsLt e.length) {xs : List AV} {vs : List Value} (hx : Reps V xs vs) (hxs : xs = AV.renL (at0 e) args) (hargs : AV.idsLtL e.length args = true) :
    CallsIn Fence.wide 0 P f vs.toArray V.w (Goes G V (backHeap e V.H Hs') (out.ren (upto e V.H.length))) := by
  let V1 : View := { w := V.w, M := V.M, H := Hs, ρ := fun i => V.ρ (at0 e i) }
  have hk : Lk V1 V (at0 e) := ⟨rfl, fun _ => Iff.rfl, fun _ _ => rfl, hobj⟩
  have hG1 : HeapRep G V1 := HeapRep.bwd hk hG (fun i o ho => by show AObj.idsLt Hs.length o; rw [hlen]; exact hids i o ho) fun i j hi hj he => at0_inj hnd (by simpa [V1, hlen] using hi) (by simpa [V1, hlen] using hj) he
  have hr : Reps V1 args vs := Reps.bwd hk (by show AV.idsLtL Hs.length args = true; rw [hlen]; exact hargs) (hxs ▸ hx)
  have h := hc V1 vs rfl hG1 hr
  refine ⟨h.1, fun cs hroom => ?_⟩
  obtain ⟨en, w', fr, hR, hrest⟩ := h.2 cs hroom
  refine ⟨en, w', fr, ?_, hrest⟩
  obtain ⟨V1', h1, h2, h3, h4, h5⟩ := hR
  obtain ⟨V', k1, k2, k3, k4, k5, k6⟩ := Am.frame hG hnd hlt hlen hobj h2 h3
  exact ⟨V', k1.trans h1, k4, k5, by rw [k3, h4], h5.fwd k6⟩

/-! ### Numbers drawn in -/
mutual
/-- Its own objects' numbers are among e. -/
def AV.idsIn (e : List Nat) : AV → Bool
  | .ptr id _ | .apt id _ _ _ | .own id _ _ _ | .mp id | .yl id => (posOf e id).isSome
  | .fn _ as bs => AV.idsInL e as && AV.idsInL e bs
  | .ifc _ x => x.idsIn e
  | .agg cs | .tup cs => AV.idsInL e cs
  | _ => true
def AV.idsInL (e : List Nat) : List AV → Bool
  | [] => true
  | x :: xs => x.idsIn e && AV.idsInL e xs
end
def pos0 (e : List Nat) (id : Nat) : Nat := (posOf e id).getD 0
theorem pos0_at {e : List Nat} {id : Nat} (h : (posOf e id).isSome = true) : at0 e (pos0 e id) = id ∧ Nat.blt (pos0 e id) e.length = true := by
  obtain ⟨i, hi⟩ := Option.isSome_iff_exists.1 h
  obtain ⟨h1, h2⟩ := posOf_some hi
  simp only [pos0, hi, Option.getD_some, at0]
  exact ⟨h2, by simp [h1]⟩
mutual
theorem ren_pos0 (e : List Nat) : ∀ x : AV, x.idsIn e = true → (x.ren (pos0 e)).ren (at0 e) = x ∧ (x.ren (pos0 e)).idsLt e.length = true
  | .lit _, _ | .imm _, _ | .sl .., _ | .dead, _ => ⟨rfl, rfl⟩
  | .ptr .., h | .apt .., h | .own .., h | .mp _, h | .yl _, h => by
    have := pos0_at (e := e) h
    exact ⟨by simp only [AV.ren, this.1], this.2⟩
  | .fn f as bs, h => by
    simp only [AV.idsIn, Bool.and_eq_true] at h
    have h1 := renL_pos0 e as h.1
    have h2 := renL_pos0 e bs h.2
    exact ⟨by simp only [AV.ren, h1.1, h2.1], by simp only [AV.ren, AV.idsLt, h1.2, h2.2, Bool.and_self]⟩
  | .ifc t x, h => by
    have := ren_pos0 e x h
    exact ⟨by simp only [AV.ren, this.1], this.2⟩
  | .agg cs, h => by
    have := renL_pos0 e cs h
    exact ⟨by simp only [AV.ren, this.1], this.2⟩
  | .tup cs, h => by
    have := renL_pos0 e cs h
    exact ⟨by simp only [AV.ren, this.1], this.2⟩
theorem renL_pos0 (e : List Nat) : ∀ xs : List AV, AV.idsInL e xs = true → AV.renL (at0 e) (AV.renL (pos0 e) xs) = xs ∧ AV.idsLtL e.length (AV.renL (pos0 e) xs) = true
  | [], _ => ⟨rfl, rfl⟩
  | x :: xs, h => by
    simp only [AV.idsInL, Bool.and_eq_true] at h
    have h1 := ren_pos0 e x h.1
    have h2 := renL_pos0 e xs h.2
    exact ⟨by simp only [AV.renL, h1.1, h2.1], by simp only [AV.renL, AV.idsLtL, h1.2, h2.2, Bool.and_self]⟩
end
mutual
theorem ren_none (σ : Nat → Nat) : ∀ x : AV, x.idsIn [] = true → x.ren σ = x ∧ ∀ n, x.idsLt n = true
  | .lit _, _ | .imm _, _ | .sl .., _ | .dead, _ => ⟨rfl, fun _ => rfl⟩
  | .ptr .., h | .apt .., h | .own .., h | .mp _, h | .yl _, h => by simp [AV.idsIn, posOf] at h
  | .fn f as bs, h => by
    simp only [AV.idsIn, Bool.and_eq_true] at h
    have h1 := renL_none σ as h.1
    have h2 := renL_none σ bs h.2
    exact ⟨by simp only [AV.ren, h1.1, h2.1], fun n => by simp only [AV.idsLt, h1.2, h2.2, Bool.and_self]⟩
  | .ifc t x, h => by
    have := ren_none σ x h
    exact ⟨by simp only [AV.ren, this.1], this.2⟩
  | .agg cs, h => by
    have := renL_none σ cs h
    exact ⟨by simp only [AV.ren, this.1], this.2⟩
  | .tup cs, h => by
    have := renL_none σ cs h
    exact ⟨by simp only [AV.ren, this.1], this.2⟩
theorem renL_none (σ : Nat → Nat) : ∀ xs : List AV, AV.idsInL [] xs = true → AV.renL σ xs = xs ∧ ∀ n, AV.idsLtL n xs = true
  | [], _ => ⟨rfl, fun _ => rfl⟩
  | x :: xs, h => by
    simp only [AV.idsInL, Bool.and_eq_true] at h
    have h1 := ren_none σ x h.1
    have h2 := renL_none σ xs h.2
    exact ⟨by simp only [AV.renL, h1.1, h2.1], fun n => by simp only [AV.idsLtL, h1.2, h2.2, Bool.and_self]⟩
end

/-- An object under other numbers; an array's elements bear none. -/
def AObj.renD (σ : Nat → Nat) : AObj → AObj
  | .box cs => .box (AV.renL σ cs)
  | .arr g sz fz xs => .arr g sz fz xs
  | .map es => .map es
  | .rng st p env ps as bd => .rng st p (AV.renL σ env) ps as bd
  | .dfd => .dfd
  | .gone => .gone
def AObj.plain : AObj → Prop
  | .arr _ _ _ xs => ∀ x ∈ xs, AV.idsInL [] x = true
  | .map es => ∀ e ∈ es, e.1.idsIn [] = true ∧ e.2.idsIn [] = true
  | _ => True
theorem renD_eq {σ : Nat → Nat} {o : AObj} (h : o.plain) : o.renD σ = o.ren σ := by
  cases o <;> simp only [AObj.renD, AObj.ren, AObj.plain] at h ⊢
  case arr g sz fz xs =>
    congr 1
    exact ((List.map_congr_left fun x hx => (renL_none σ x (h x hx)).1).trans (List.map_id _)).symm
  case map es =>
    congr 1
    refine ((List.map_congr_left (g := id) fun x hx => ?_).trans (List.map_id _)).symm
    obtain ⟨k, v⟩ := x
    have := h _ hx
    simp only [(ren_none σ k this.1).1, (ren_none σ v this.2).1, id]
theorem renD_plain {σ : Nat → Nat} {o : AObj} (h : o.plain) : (o.renD σ).plain := by
  cases o <;> exact h

/-- An object drawn in under the numbers e; what is asked of it. -/
def AObj.look (e : List Nat) : AObj → Option (AObj × List Prop)
  | .box cs => if AV.idsInL e cs = true then some (.box (AV.renL (pos0 e) cs), []) else none
  | .arr g sz fz xs => some (.arr g sz fz xs, [∀ x ∈ xs, AV.idsInL [] x = true])
  | .map es => some (.map es, [∀ e ∈ es, e.1.idsIn [] = true ∧ e.2.idsIn [] = true])
  | .rng st p env ps as bd => if AV.idsInL e env = true then some (.rng st p (AV.renL (pos0 e) env) ps as bd, []) else none
  | .dfd => some (.dfd, [])
  | .gone => some (.gone, [])
theorem look_sound {e : List Nat} {o o' : AObj} {ps : List Prop} (h : o.look e = some (o', ps)) (hps : AllP ps) : o'.ren (at0 e) = o ∧ o'.idsLt e.length ∧ o'.plain := by
  cases o <;> simp only [AObj.look] at h
  case box cs =>
    split at h
    · rename_i hc; cases h
      have := renL_pos0 e cs hc
      exact ⟨by simp only [AObj.ren, this.1], this.2, trivial⟩
    · cases h
  case arr g sz fz xs =>
    cases h
    refine ⟨(renD_eq (o := .arr g sz fz xs) hps.1).symm, fun x hx => (renL_none id x (hps.1 x hx)).2 _, hps.1⟩
  case map es =>
    cases h
    exact ⟨(renD_eq (o := .map es) hps.1).symm, fun x hx => ⟨(ren_none id _ (hps.1 x hx).1).2 _, (ren_none id _ (hps.1 x hx).2).2 _⟩, hps.1⟩
  case rng st p env ps as bd =>
    split at h
    · rename_i hc; cases h
      have := renL_pos0 e env hc
      exact ⟨by simp only [AObj.ren, this.1], this.2, trivial⟩
    · cases h
  case dfd => cases h; exact ⟨rfl, trivial, trivial⟩
  case gone => cases h; exact ⟨rfl, trivial, trivial⟩
def looks (e : List Nat) (H : List AObj) : List Nat → Option (List AObj × List Prop)
  | [] => some ([], [])
  | id :: ids => match H[id]? with
    | some o => match o.look e, looks e H ids with
      | some (o', ps), some (os, qs) => some (o' :: os, ps ++ qs)
      | _, _ => none
    | none => none
theorem looks_sound {e : List Nat} {H : List AObj} : ∀ {ids : List Nat} {Hs : List AObj} {ps : List Prop}, looks e H ids = some (Hs, ps) → AllP ps → Hs.length = ids.length ∧ (∀ a ∈ ids, a < H.length) ∧
    ∀ (i : Nat) (o : AObj), Hs[i]? = some o → H[ids.getD i 0]? = some (o.ren (at0 e)) ∧ o.idsLt e.length ∧ o.plain
  | [], Hs, ps, h, _ => by
    simp only [looks, Option.some.injEq, Prod.mk.injEq] at h
    obtain ⟨rfl, rfl⟩ := h
    exact ⟨rfl, by simp, fun i o ho => by simp at ho⟩
  | id :: ids, Hs, ps, h, hps => by
    unfold looks at h
    split at h
    · rename_i o hH
      split at h
      · rename_i o' qs os rs h1 h2
        cases h
        obtain ⟨hq, hr⟩ := allP_append.1 hps
        obtain ⟨k1, k2, k3⟩ := look_sound h1 hq
        obtain ⟨l1, l2, l3⟩ := looks_sound h2 hr
        refine ⟨by simp [l1], fun a ha => ?_, fun i ob hi => ?_⟩
        · rcases List.mem_cons.1 ha with rfl | ha
          · exact (List.getElem?_eq_some_iff.1 hH).1
          · exact l2 a ha
        · cases i with
          | zero =>
            simp only [List.getElem?_cons_zero, Option.some.injEq] at hi
            subst hi
            exact ⟨by simp only [List.getD_cons_zero]; rw [hH, k1], k2, k3⟩
          | succ i =>
            simp only [List.getElem?_cons_succ] at hi
            simpa using l3 i ob hi
      · cases h
    · cases h

/-- The caller's heap behind the call. -/
def putD (σ : Nat → Nat) : List Nat → List AObj → List AObj → List AObj
  | [], _, H => H
  | _ :: _, [], H => H
  | id :: e, o :: os, H => putD σ e os (H.set id (o.renD σ))
def backD (e : List Nat) (H Hs : List AObj) : List AObj := putD (upto e H.length) e Hs H ++ (Hs.drop e.length).map (AObj.renD (upto e H.length))
theorem putD_eq (σ : Nat → Nat) : ∀ (e : List Nat) (os H : List AObj), (∀ o ∈ os, o.plain) → putD σ e os H = putBack σ e os H
  | [], _, _, _ => rfl
  | _ :: _, [], _, _ => rfl
  | id :: e, o :: os, H, h => by rw [putD, putBack, renD_eq (h o (by simp)), putD_eq σ e os _ fun o ho => h o (by simp [ho])]
theorem backD_eq {e : List Nat} {H Hs : List AObj} (h : ∀ o ∈ Hs, o.plain) : backD e H Hs = backHeap e H Hs := by
  unfold backD backHeap
  rw [putD_eq _ _ _ _ h]
  congr 1
  exact List.map_congr_left fun o ho => renD_eq (h o (List.mem_of_mem_drop ho))
def plains : List AObj → List Prop
  | [] => []
  | .arr _ _ _ xs :: os => (∀ x ∈ xs, AV.idsInL [] x = true) :: plains os
  | .map es :: os => (∀ e ∈ es, e.1.idsIn [] = true ∧ e.2.idsIn [] = true) :: plains os
  | _ :: os => plains os
theorem plains_sound : ∀ {os : List AObj}, AllP (plains os) → ∀ o ∈ os, o.plain
  | [], _, _, h => by cases h
  | o :: os, h, o', ho => by
    cases o <;> simp only [plains] at h <;> rcases List.mem_cons.1 ho with rfl | ho <;> first
      | trivial
      | exact h.1
      | exact plains_sound h.2 _ ho
      | exact plains_sound h _ ho
end Go.Am
