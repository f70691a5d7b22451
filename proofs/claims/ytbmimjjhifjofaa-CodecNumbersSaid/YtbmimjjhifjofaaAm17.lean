/- THE ABSTRACT MACHINE, 17: code. -/
import Derived.Test.YtbmimjjhifjofaaAm16
namespace Go.Am
open Go

/-! ### A loop, from its head -/
def LoopIn (F : Fence) (n : Nat) (P : Program) (c : Code) (Q : Exit → Act → World → Prop) (a : Act) (w : World) : Prop :=
  ∀ (b : Frame) (k : List Item) (cs : List Frame), b.roundOf = F.round → F.fn b.fn → F.room (cs.length + 1 + n) →
    ∃ e a' w', Q e a' w' ∧ ArrivesIn (Machine.fenced P F) P (lone (b.atR a (.code c :: .inLoop c :: k)) cs w) b k cs e a' w'
section
variable {F : Fence} {n : Nat} {P : Program} {Q : Exit → Act → World → Prop} {a : Act} {w : World} {c : Code}
theorem LoopIn.wpIn (h : LoopIn F n P c Q a w) : (Code.loop c).wpIn F n P Q a w := fun b k cs hro hb hr =>
  let ⟨e, a', w', hq, harr⟩ := h b k cs hro hb hr
  ⟨e, a', w', hq, .of_steps (.one (fenced_calm hb hr rfl) stepR_loop) harr⟩
theorem LoopIn.next (h : c.wpIn F n P (Exit.then (LoopIn F n P c Q) Q) a w) : LoopIn F n P c Q a w := by
  intro b k cs hro hb hr
  obtain ⟨e, a₁, w₁, hq, harr⟩ := h b (.inLoop c :: k) cs hro hb hr
  cases e with
  | normal =>
    obtain ⟨e₂, a₂, w₂, hq₂, harr₂⟩ := hq b k cs hro hb hr
    exact ⟨e₂, a₂, w₂, hq₂, .of_steps (StepsIn.trans harr (.one (fenced_calm hb hr rfl) stepR_inLoop)) harr₂⟩
  | exit id => exact ⟨_, a₁, w₁, hq, .pass (x := .inLoop c) rfl (fun _ _ => .inl (by simp)) harr⟩
  | goto l => exact ⟨_, a₁, w₁, hq, .pass (x := .inLoop c) rfl (fun _ _ => .inl (by simp)) harr⟩
  | ret => exact ⟨_, a₁, w₁, hq, .pass (x := .inLoop c) rfl (fun _ _ => .inl (by simp)) harr⟩
  | panic ch => exact ⟨_, a₁, w₁, hq, .pass (x := .inLoop c) rfl (fun _ _ => .inl (by simp)) harr⟩
  | outgrown => exact ⟨_, a₁, w₁, hq, .pass (x := .inLoop c) rfl (fun _ _ => .inl (by simp)) harr⟩
end

/-! ### States -/
inductive ADef where
  | mark (id : Nat)
  | call (f : FuncId) (xs : List AV)
structure St where
  env : List AV
  H : List AObj
  defs : List ADef := []

def AObj.isDfd : AObj → Bool
  | .dfd | .gone => true
  | _ => false
theorem dfdOk_step {V V' : View} (hs : Step V V') {id : Nat} (h : KindOk AObj.isDfd V id) : KindOk AObj.isDfd V' id ∧ V'.ρ id = V.ρ id :=
  h.step hs rfl (fun _ _ _ _ => rfl) (fun h => absurd h (by simp [AObj.isDfd])) (fun _ _ => rfl) (fun _ _ => rfl) (fun _ _ _ _ _ _ _ _ _ _ _ _ => rfl)
def DefRep (V : View) : ADef → Deferred → Prop
  | .mark id, d => KindOk AObj.isDfd V id ∧ d = { target := .collected (V.ρ id), args := #[] }
  | .call f xs, d => ∃ cs, d.target = .fn (.func f) cs ∧ Reps V xs (d.args.toList ++ cs.toList)
theorem DefRep.step {V V' : View} (hs : Step V V') {x : ADef} {d : Deferred} (h : DefRep V x d) : DefRep V' x d := by
  cases x with
  | mark id => obtain ⟨h1, rfl⟩ := h; obtain ⟨k1, k2⟩ := dfdOk_step hs h1; exact ⟨k1, by rw [k2]⟩
  | call f xs => obtain ⟨cs, h1, h2⟩ := h; exact ⟨cs, h1, h2.step hs⟩
inductive DefsRep (V : View) : List ADef → List Deferred → Prop
  | nil : DefsRep V [] []
  | cons {x : ADef} {d : Deferred} {xs : List ADef} {ds : List Deferred} (h : DefRep V x d) (hs : DefsRep V xs ds) : DefsRep V (x :: xs) (d :: ds)
theorem DefsRep.step {V V' : View} (hs : Step V V') {xs : List ADef} {ds : List Deferred} (h : DefsRep V xs ds) : DefsRep V' xs ds := by
  induction h with
  | nil => exact .nil
  | cons h _ ih => exact .cons (h.step hs) ih

structure StOk (V : View) (s : St) (a : Act) : Prop where
  env : EnvOk V s.env a
  H : V.H = s.H
  defs : DefsRep V s.defs a.defers
def ExRep (V : View) : AEx → Exit → Prop
  | .normal, .normal => True
  | .exit i, .exit j => j = i
  | .goto i, .goto j => j = i
  | .ret, .ret => True
  | .pan x, .panic chain => ∃ v, chain = [{ v := v, recovered := false }] ∧ Rep V x v
  | _, _ => False
/-- How code ends: seen from the view V0. -/
def Ends (G : Nat → Option (List AV)) (V0 : View) (ex : AEx) (s' : St) (e : Exit) (a' : Act) (w' : World) : Prop :=
  ∃ V' : View, V'.w = w' ∧ Step V0 V' ∧ HeapRep G V' ∧ StOk V' s' a' ∧ ExRep V' ex e
/-- THE TRIPLE: from s, the code c ends by ex in s'; the first n0 objects are those that were handed in. -/
def RunC (P : Program) (G : Nat → Option (List AV)) (r : Option Nat) (n0 : Nat) (c : Code) (s : St) (ex : AEx) (s' : St) : Prop :=
  ∀ (V0 V : View) (a : Act), V0.H.length = n0 → Step V0 V → HeapRep G V → StOk V s a → c.wpIn (fz r) 0 P (Ends G V0 ex s') a V.w
def RunL (P : Program) (G : Nat → Option (List AV)) (r : Option Nat) (n0 : Nat) (c : Code) (s : St) (ex : AEx) (s' : St) : Prop :=
  ∀ (V0 V : View) (a : Act), V0.H.length = n0 → Step V0 V → HeapRep G V → StOk V s a → LoopIn (fz r) 0 P c (Ends G V0 ex s') a V.w

/-! ### What is let go -/
def deaden : List AV → List Nat → List AV
  | env, [] => env
  | env, t :: ts => deaden (env.set t .dead) ts
def AObj.cutOk (n : Nat) : AObj → Option (List Prop)
  | .box cs => if AV.idsLtL n cs = true then some [] else none
  | .arr _ _ _ xs => some [∀ x ∈ xs, AV.idsInL [] x = true]
  | .map es => some [∀ e ∈ es, e.1.idsIn [] = true ∧ e.2.idsIn [] = true]
  | .rng _ _ env _ _ _ => if AV.idsLtL n env = true then some [] else none
  | .dfd | .gone => some []
def cutsOk (n : Nat) : List AObj → Option (List Prop)
  | [] => some []
  | o :: os => match o.cutOk n, cutsOk n os with
    | some ps, some qs => some (ps ++ qs)
    | _, _ => none
def defsLt (n : Nat) : List ADef → Bool
  | [] => true
  | .mark id :: ds => Nat.blt id n && defsLt n ds
  | .call _ xs :: ds => AV.idsLtL n xs && defsLt n ds
/-- Slots die; the objects from n on are let go. -/
def weakA (n0 : Nat) (dead : List Nat) (n : Nat) (s : St) : Option (St × List Prop) :=
  let env := deaden s.env dead
  if n = s.H.length then some ({ s with env := env }, []) else
  if n0 ≤ n ∧ n ≤ s.H.length ∧ AV.idsLtL n env = true ∧ defsLt n s.defs = true then
    (match cutsOk n (s.H.take n) with
    | some ps => some ({ s with env := env, H := s.H.take n }, ps)
    | none => none) else none

section
variable {G : Nat → Option (List AV)} {V : View}
theorem deaden_ok {a : Act} : ∀ {ts : List Nat} {env : List AV}, EnvOk V env a → EnvOk V (deaden env ts) a
  | [], _, h => h
  | t :: ts, env, h => deaden_ok (ts := ts) ⟨by simpa using h.1, fun j hj => by
      have hj' : j < env.length := by simpa using hj
      by_cases e : t = j
      · subst e; rw [getD_set_self' hj']; exact .dead _
      · rw [getD_set_ne' e]; exact h.2 j hj'⟩

theorem cutObj_sound {n : Nat} {o : AObj} {ps : List Prop} (h : o.cutOk n = some ps) (hps : AllP ps) : o.idsLt n := by
  cases o <;> simp only [AObj.cutOk] at h
  case box cs => split at h <;> first | assumption | cases h
  case arr g sz fz xs => cases h; exact fun x hx => (renL_none id x (hps.1 x hx)).2 n
  case map es => cases h; exact fun e he => ⟨(ren_none id _ (hps.1 e he).1).2 n, (ren_none id _ (hps.1 e he).2).2 n⟩
  case rng => split at h <;> first | assumption | cases h
  case dfd => trivial
  case gone => trivial
theorem cuts_sound {n : Nat} : ∀ {os : List AObj} {ps : List Prop}, cutsOk n os = some ps → AllP ps → ∀ o ∈ os, o.idsLt n
  | [], _, _, _, o, ho => by cases ho
  | o1 :: os, ps, h, hps, o, ho => by
    unfold cutsOk at h
    split at h
    · rename_i p q h1 h2
      cases h
      obtain ⟨a1, a2⟩ := allP_append.1 hps
      rcases List.mem_cons.1 ho with rfl | ho
      · exact cutObj_sound h1 a1
      · exact cuts_sound h2 a2 o ho
    · cases h

/-- The same view, its first n objects alone. -/
def View.cut (V : View) (n : Nat) : View := { V with H := V.H.take n }
theorem lk_cut {n : Nat} (hn : n ≤ V.H.length) : Lk (V.cut n) V id := ⟨rfl, fun _ => Iff.rfl, fun _ _ => rfl, fun i o ho => by
  have hlt : i < n := by
    have := (List.getElem?_eq_some_iff.1 ho).1
    simp only [View.cut, List.length_take] at this
    omega
  have : V.H[i]? = some o := by rw [← ho]; simp [View.cut, hlt]
  rw [id, this]
  congr 1
  exact (renId o).symm⟩
 where
  renId (o : AObj) : o.ren id = o := by
    have l1 : ∀ x : AV, x.ren id = x := fun x => ren_id x
    have l2 : ∀ xs : List AV, AV.renL id xs = xs := fun xs => renL_id xs
    cases o <;> simp only [AObj.ren, l2]
    case arr g sz fz xs => congr 1; exact (List.map_congr_left fun x _ => l2 x).trans (List.map_id _)
    case map es =>
      congr 1
      refine (List.map_congr_left (g := id) fun x _ => ?_).trans (List.map_id _)
      obtain ⟨k, v⟩ := x
      simp only [l1, id]
  ren_id : ∀ x : AV, x.ren id = x
    | .lit _ | .imm _ | .sl .. | .dead => rfl
    | .ptr .. | .apt .. | .own .. | .mp _ | .yl _ => rfl
    | .fn f as bs => by simp only [AV.ren, renL_id as, renL_id bs]
    | .ifc t x => by simp only [AV.ren, ren_id x]
    | .agg cs => by simp only [AV.ren, renL_id cs]
    | .tup cs => by simp only [AV.ren, renL_id cs]
  renL_id : ∀ xs : List AV, AV.renL id xs = xs
    | [] => rfl
    | x :: xs => by simp only [AV.renL, ren_id x, renL_id xs]

theorem cut_len {n : Nat} (hn : n ≤ V.H.length) : (V.cut n).H.length = n := by simp only [View.cut, List.length_take]; omega
theorem cut_heap {n : Nat} (hn : n ≤ V.H.length) (hG : HeapRep G V) (hi : ∀ o ∈ V.H.take n, o.idsLt n) : HeapRep G (V.cut n) :=
  HeapRep.bwd (lk_cut hn) hG (fun i o ho => by rw [cut_len hn]; exact hi o (List.mem_of_getElem? ho)) fun i j _ _ h => h
theorem cut_reps {n : Nat} (hn : n ≤ V.H.length) {xs : List AV} {vs : List Value} (hi : AV.idsLtL n xs = true) (h : Reps V xs vs) : Reps (V.cut n) xs vs :=
  Reps.bwd (lk_cut hn) (by rw [cut_len hn]; exact hi) (by rw [lk_cut.renL_id]; exact h)
theorem cut_rep {n : Nat} (hn : n ≤ V.H.length) {x : AV} {v : Value} (hi : x.idsLt n = true) (h : Rep V x v) : Rep (V.cut n) x v :=
  Rep.bwd (lk_cut hn) h x (lk_cut.ren_id x).symm (by rw [cut_len hn]; exact hi)
theorem cut_step {V0 : View} {n : Nat} (hn : n ≤ V.H.length) (h0 : V0.H.length ≤ n) (hs : Step V0 V) : Step V0 (V.cut n) where
  os := hs.os
  tape := hs.tape
  output := hs.output
  size := hs.size
  keep := hs.keep
  data := hs.data
  hlen := by rw [cut_len hn]; exact h0
  fresh id hid := hs.fresh id (by rw [cut_len hn] at hid; omega)
  obj id hid := by
    have := hs.obj id hid
    unfold ObjStep at *
    have e : (V.cut n).H[id]? = V.H[id]? := by simp [View.cut, show id < n by omega]
    rw [e]
    exact this
theorem cut_defs {n : Nat} (hn : n ≤ V.H.length) : ∀ {ds : List ADef} {l : List Deferred}, defsLt n ds = true → DefsRep V ds l → DefsRep (V.cut n) ds l := by
  intro ds l hd h
  induction h with
  | nil => exact .nil
  | cons h _ ih =>
    rename_i x d xs ds _
    cases x with
    | mark id =>
      simp only [defsLt, Bool.and_eq_true] at hd
      obtain ⟨⟨o, h1, h2⟩, h3⟩ := h
      have hlt : id < n := by simpa using hd.1
      exact .cons ⟨⟨o, by rw [← h1]; simp [View.cut, hlt], h2⟩, h3⟩ (ih hd.2)
    | call f ys =>
      simp only [defsLt, Bool.and_eq_true] at hd
      obtain ⟨cs, h1, h2⟩ := h
      exact .cons ⟨cs, h1, cut_reps hn hd.1 h2⟩ (ih hd.2)

theorem weak_sound {n0 n : Nat} {dead : List Nat} {s s2 : St} {ps : List Prop} (h : weakA n0 dead n s = some (s2, ps)) (hps : AllP ps) {V0 : View} {a : Act} (h0 : V0.H.length = n0) (hs : Step V0 V) (hG : HeapRep G V) (hok : StOk V s a) :
    ∃ V2 : View, V2.w = V.w ∧ Step V0 V2 ∧ HeapRep G V2 ∧ StOk V2 s2 a := by
  unfold weakA at h
  simp only at h
  split at h
  · cases h
    exact ⟨V, rfl, hs, hG, ⟨deaden_ok hok.env, hok.H, hok.defs⟩⟩
  · split at h
    · rename_i hc
      obtain ⟨c1, c2, c3, c4⟩ := hc
      split at h
      · rename_i qs hq
        cases h
        have hn : n ≤ V.H.length := by rw [hok.H]; exact c2
        exact ⟨V.cut n, rfl, cut_step hn (by omega) hs, cut_heap hn hG (by rw [hok.H]; exact cuts_sound hq hps), ⟨cut_reps hn c3 (deaden_ok hok.env), by simp [View.cut, hok.H], cut_defs hn c4 hok.defs⟩⟩
      · cases h
    · cases h
end
end Go.Am
