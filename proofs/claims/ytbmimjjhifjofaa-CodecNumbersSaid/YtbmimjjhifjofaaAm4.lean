/- THE ABSTRACT MACHINE, 4: operations that only compute. -/
import Derived.Test.YtbmimjjhifjofaaAm3
namespace Go.Am
open Go

def tAgg (P : Program) (t : TypeId) : Option Bool :=
  match P.underlying t with
  | some (.struct _) | some (.array _ _) => some true
  | some _ => some false
  | none => none
def tSize (P : Program) (t : TypeId) : Option Nat := (P.info? t).map (·.size)

/-- A variable of type t read off the cells that begin where it lies. -/
def loadA (P : Program) (t : TypeId) (rest : List AV) : Option AV :=
  match tAgg P t, tSize P t with
  | some true, some n => if n ≤ rest.length then some (.agg (rest.take n)) else none
  | some false, _ => match rest with
    | x :: _ => some x
    | [] => none
  | _, _ => none

/-- The cells of memory from ⟨b, o⟩ on. -/
def CellsAt (V : View) (b o : Nat) (rest : List AV) : Prop := ∃ vs : List Value, Reps V rest vs ∧ ∀ j, j < rest.length → V.w.cell? ⟨b, o + j, none⟩ = some (vs.getD j undef)

theorem CellsAt.drop {V : View} {b o : Nat} {rest : List AV} (h : CellsAt V b o rest) (n : Nat) : CellsAt V b (o + n) (rest.drop n) := by
  obtain ⟨vs, h1, h2⟩ := h
  refine ⟨vs.drop n, h1.drop n, fun j hj => ?_⟩
  simp at hj
  have := h2 (n + j) (by omega)
  rw [Nat.add_assoc, this]
  simp [List.getD_eq_getElem?_getD, List.getElem?_drop]

theorem run_isAgg {P : Program} {t : TypeId} {b : Bool} (h : tAgg P t = some b) (w : World) : (isAgg t).run P w = .ok b w := by
  unfold tAgg at h
  cases hu : P.underlying t with
  | none => simp [hu] at h
  | some d =>
    rw [hu] at h
    cases d <;> simp only [Option.some.injEq] at h <;> subst h <;> simp [isAgg, run_underlying hu]
theorem run_size {P : Program} {t : TypeId} {n : Nat} (h : tSize P t = some n) (w : World) : (sizeOf t).run P w = .ok n w := by
  unfold tSize at h
  cases hi : P.info? t with
  | none => simp [hi] at h
  | some i => simp [hi] at h; simp [sizeOf, typeInfo, hi, h]

theorem loadA_sound {P : Program} {V : View} {t : TypeId} {rest : List AV} {x : AV} {b o : Nat} (hl : loadA P t rest = some x) (h : CellsAt V b o rest) :
    ∃ v, (loadVar t ⟨b, o, none⟩).run P V.w = .ok v V.w ∧ Rep V x v := by
  obtain ⟨vs, h1, h2⟩ := h
  unfold loadA at hl
  cases ha : tAgg P t with
  | none => simp [ha] at hl
  | some g =>
    cases g with
    | true =>
      cases hs : tSize P t with
      | none => simp [ha, hs] at hl
      | some n =>
        simp only [ha, hs] at hl
        split at hl
        · rename_i hn
          cases hl
          refine ⟨.agg (vs.take n).toArray, ?_, .agg _ _ ?_ ?_⟩
          · have hlen : (vs.take n).length = n := by simp [h1.1]; omega
            have := run_loadCells_list (P := P) V.w ⟨b, o, none⟩ (vs.take n) (fun j v hj => by
              have hj' : j < n := by
                have := (List.getElem?_eq_some_iff.1 hj).1
                rw [hlen] at this; exact this
              have := h2 j (by omega)
              rw [Addr.add_lit, this]
              rw [List.getElem?_take, if_pos hj'] at hj
              rw [List.getD_eq_getElem?_getD, hj]; rfl)
            rw [hlen] at this
            simp [loadVar, run_isAgg ha, run_size hs, this]
          · simp [h1.1]
          · intro j hj
            have := (h1.take n).2 j hj
            exact this
        · cases hl
    | false =>
      simp only [ha] at hl
      match rest, vs, h1, hl with
      | y :: rest, v :: vs, h1, hl =>
        simp only [Option.some.injEq] at hl
        subst hl
        have hc := h2 0 (by simp)
        simp only [Nat.add_zero, List.getD_cons_zero] at hc
        exact ⟨v, by simp [loadVar, run_isAgg ha, hc], h1.head⟩
      | [], _, _, hl => simp at hl
      | _ :: _, [], h1, _ => have := h1.1; simp at this

def fieldOf (P : Program) (t : TypeId) (f : Nat) : Option Field :=
  match P.underlying t with
  | some (.struct fs) => fs[f]?
  | _ => none
/-- The place of a field that takes room. -/
def fieldOff (P : Program) (t : TypeId) (f : Nat) : Option Nat :=
  match fieldOf P t f with
  | some fd => match tSize P fd.type with
    | some (_ + 1) => some fd.offset
    | _ => none
  | none => none
theorem run_fieldAt {P : Program} {t : TypeId} {f n : Nat} (h : fieldOff P t f = some n) (w : World) (b o : Nat) :
    (Instr.fieldAt t (.pointer (some ⟨b, o, none⟩)) f).run P w = .ok (.pointer (some ⟨b, o + n, none⟩)) w := by
  unfold fieldOff fieldOf at h
  cases hu : P.underlying t with
  | none => simp [hu] at h
  | some d =>
    cases d <;> simp only [hu] at h <;> try (cases h; done)
    rename_i fs
    cases hf : fs[f]? with
    | none => simp [hf] at h
    | some fd =>
      rw [hf] at h
      cases hs : tSize P fd.type with
      | none => simp [hs] at h
      | some m =>
        cases m with
        | zero => simp [hs] at h
        | succ m =>
          simp only [hs, Option.some.injEq] at h
          subst h
          simp [Instr.fieldAt, run_underlying hu, hf, Instr.sureAddr, fieldPlace, run_size hs, Addr.add_lit]

theorem part_sound {P : Program} {V : View} {t : TypeId} {cs : List AV} {vs : List Value} {x : AV} {off : Nat} (hr : Reps V cs vs) (hl : loadA P t (cs.drop off) = some x) :
    ∃ v, (part t vs.toArray off).run P V.w = .ok v V.w ∧ Rep V x v := by
  unfold loadA at hl
  cases ha : tAgg P t with
  | none => simp [ha] at hl
  | some g =>
    cases g with
    | true =>
      cases hs : tSize P t with
      | none => simp [ha, hs] at hl
      | some n =>
        simp only [ha, hs] at hl
        split at hl
        · rename_i hn
          cases hl
          have h2 := (hr.drop off).take n
          refine ⟨.agg ((vs.drop off).take n).toArray, ?_, .agg _ _ h2.1 h2.2⟩
          simp [part, run_isAgg ha, run_size hs]
        · cases hl
    | false =>
      simp only [ha] at hl
      cases hd : cs.drop off with
      | nil => simp [hd] at hl
      | cons y rest =>
        simp only [hd, Option.some.injEq] at hl
        subst hl
        have hlt : off < cs.length := by
          rcases Nat.lt_or_ge off cs.length with h | h
          · exact h
          · rw [List.drop_of_length_le h] at hd; cases hd
        have hy : cs.getD off .dead = y := by
          have : cs[off]? = some y := by have := List.getElem?_drop (xs := cs) (i := off) (j := 0); rw [hd] at this; simpa using this.symm
          rw [List.getD_eq_getElem?_getD, this]; rfl
        have hv := hr.2 off hlt
        rw [hy] at hv
        have hlt' : off < vs.length := by rw [hr.1]; exact hlt
        refine ⟨vs.getD off undef, ?_, hv⟩
        simp [part, run_isAgg ha, List.getElem?_eq_getElem hlt', List.getD_eq_getElem?_getD]

/-! build -/
def splice {α : Type} (cells : List α) (off : Nat) (cs : List α) : List α := cells.take off ++ cs ++ cells.drop (off + cs.length)
def fillA (place : Nat → Option (Nat × Nat)) (cells : List AV) : List (Nat × AV) → Option (List AV)
  | [] => some cells
  | (i, v) :: rest =>
    match place i, v.cells with
    | some (off, size), some cs => if cs.length = size ∧ off + cs.length ≤ cells.length then fillA place (splice cells off cs) rest else none
    | _, _ => none

theorem foldl_sets (off : Nat) : ∀ (vs : List Value) (n : Nat) (cells : Array Value), off + n + vs.length ≤ cells.size →
    ((vs.zipIdx n).foldl (fun (cs : Array Value) (x : Value × Nat) => cs.setIfInBounds (off + x.2) x.1) cells).toList = splice cells.toList (off + n) vs
  | [], n, cells, _ => by simp [splice]
  | v :: vs, n, cells, h => by
    simp only [List.length_cons] at h
    rw [List.zipIdx_cons, List.foldl_cons, foldl_sets off vs (n + 1) _ (by simp; omega)]
    simp only [Array.toList_setIfInBounds, splice]
    apply List.ext_getElem?
    intro k
    simp only [List.getElem?_append, List.length_append, List.length_take, List.length_set, Array.length_toList, List.getElem?_take, List.getElem?_drop, List.length_cons]
    have e1 : min (off + (n + 1)) cells.size = off + (n + 1) := by omega
    have e2 : min (off + n) cells.size = off + n := by omega
    rw [e1, e2]
    by_cases h1 : k < off + n
    · rw [if_pos (show k < off + (n + 1) + vs.length by omega), if_pos (show k < off + (n + 1) by omega), if_pos (show k < off + (n + 1) by omega),
        if_pos (show k < off + n + (vs.length + 1) by omega), if_pos h1, if_pos h1, List.getElem?_set_ne (by omega)]
    · by_cases h2 : k = off + n
      · subst h2
        rw [if_pos (by omega), if_pos (by omega), if_pos (by omega), if_pos (by omega), if_neg (by omega)]
        rw [List.getElem?_set_self (by simp; omega)]
        simp
      · by_cases h3 : k < off + (n + 1) + vs.length
        · rw [if_pos h3, if_neg (by omega), if_pos (by omega), if_neg (by omega)]
          rw [show k - (off + n) = (k - (off + (n + 1))) + 1 by omega]
          simp
        · rw [if_neg h3, if_neg (by omega)]
          rw [List.getElem?_set_ne (by omega)]
          congr 1; omega

theorem Reps.splice {V : View} {xs : List AV} {vs : List Value} (h : Reps V xs vs) (off : Nat) {ys : List AV} {us : List Value} (k : Reps V ys us) : Reps V (splice xs off ys) (splice vs off us) := by
  unfold Am.splice
  rw [k.1]
  exact ((h.take off).append k).append (h.drop _)

theorem fillA_sound {V : View} {place : Nat → Option (Nat × Nat)} : ∀ {parts : List (Nat × AV)} {vparts : List (Nat × Value)} {cells out : List AV} {vs : List Value}, fillA place cells parts = some out → Reps V cells vs →
    vparts.map (·.1) = parts.map (·.1) → Reps V (parts.map (·.2)) (vparts.map (·.2)) → ∃ us : List Value, Instr.fill place vs.toArray vparts = some us.toArray ∧ Reps V out us
  | [], vparts, cells, out, vs, h, hr, hi, _ => by
    simp only [fillA, Option.some.injEq] at h; subst h
    have : vparts = [] := by simpa using hi
    subst this
    exact ⟨vs, rfl, hr⟩
  | (i, x) :: parts, [], _, _, _, _, _, hi, _ => by simp at hi
  | (i, x) :: parts, (i', v) :: vparts, cells, out, vs, h, hr, hi, hp => by
    simp only [List.map_cons, List.cons.injEq] at hi hp
    obtain ⟨rfl, hi⟩ := hi
    unfold fillA at h
    cases hpl : place i' with
    | none => simp [hpl] at h
    | some os =>
      obtain ⟨off, size⟩ := os
      cases hc : x.cells with
      | none => simp [hpl, hc] at h
      | some cs =>
        simp only [hpl, hc] at h
        split at h
        · rename_i hcond
          obtain ⟨h1, h2⟩ := hcond
          have hv : Reps V cs v.cells.toList := rep_cells hc hp.head
          have hsz : v.cells.size = size := by have := hv.1; rw [← h1, ← this]; simp
          have hfit : off + 0 + v.cells.toList.length ≤ vs.toArray.size := by have := hv.1; have := hr.1; simp only [List.size_toArray]; omega
          have hfold := foldl_sets off v.cells.toList 0 vs.toArray hfit
          simp only [Nat.add_zero] at hfold
          obtain ⟨us, hus, hout⟩ := fillA_sound (vparts := vparts) h (hr.splice off hv) hi hp.tail
          refine ⟨us, ?_, hout⟩
          unfold Instr.fill
          rw [hpl]
          have hnot : ¬ ((decide (v.cells.size ≠ size) || decide (off + v.cells.size > vs.toArray.size)) = true) := by
            have := hv.1; have := hr.1
            simp only [Array.length_toList] at *
            simp; omega
          simp only
          rw [if_neg hnot]
          have hz : v.cells.zipIdx.foldl (fun (cs : Array Value) (x : Value × Nat) => cs.setIfInBounds (off + x.2) x.1) vs.toArray = (Am.splice vs off v.cells.toList).toArray := by
            apply Array.ext'
            rw [← hfold, ← Array.foldl_toList, Array.toList_zipIdx]
          rw [hz]
          exact hus
        · cases h
end Go.Am
