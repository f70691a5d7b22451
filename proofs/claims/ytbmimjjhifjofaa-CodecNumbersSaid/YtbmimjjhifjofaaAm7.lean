/- THE ABSTRACT MACHINE, 7: operations that read own objects. -/
import Derived.Test.YtbmimjjhifjofaaAm6
namespace Go.Am
open Go

def evalRead (P : Program) (H : List AObj) (ev : Operand → AV) (o : Oper) (orc : List Orc) : Option (AV × List Orc × List Prop) :=
  match o.op with
  | .load t x => match ev x with
    | .ptr id off => match H[id]? with
      | some (.box cells) => (loadA P t (cells.drop off)).map (·, orc, [])
      | _ => none
    | .apt id g k j => match H[id]?, orc with
      | some (.arr g' _ _ xs), .elem y :: orc' => (loadA P t (y.drop j)).map (·, orc', [g' = g, xs[k]? = some y])
      | _, _ => none
    | _ => none
  | .fieldAddr t x f => match fieldOff P t f, ev x with
    | some n, .apt id g k j => match H[id]? with
      | some (.arr g' _ _ _) => some (.apt id g k (j + n), orc, [g' = g])
      | _ => none
    | _, _ => none
  | .indexAddr t x i => match P.underlying t, ev x, litInt (ev i) with
    | some (.slice e), .own id g off len, some n => match tSize P e, H[id]? with
      | some s, some (.arr g' sz _ _) => if s = sz then some (.apt id g (off + n.toNat) 0, orc, [g' = g, 0 ≤ n ∧ n < (len : Int)]) else none
      | _, _ => none
    | _, _, _ => none
  | .slice t x lo hi none => match P.underlying t, ev x, boundA ev 0 lo with
    | some (.slice e), .own id g off len, some l => match tSize P e, H[id]?, boundA ev len hi with
      | some s, some (.arr g' sz _ _), some h => if s = sz then some (.own id g (off + l.toNat) (h.toNat - l.toNat), orc, [g' = g, 0 ≤ l ∧ l ≤ h ∧ h ≤ (len : Int)]) else none
      | _, _, _ => none
    | _, _, _ => none
  | .call { callee := .builtin .len, args := args, argTypes := ts } => match args.toList, ts.toList with
    | [x], [t] => match P.underlying t, ev x with
      | some (.slice _), .own id g _ len => match H[id]? with
        | some (.arr g' _ _ _) => some (.lit (.int .i64 len), orc, [g' = g])
        | _ => none
      | _, _ => none
    | _, _ => none
  | _ => none

section
variable {P : Program} {G : Nat → Option (List AV)} {V : View} {ev : Operand → AV} {ρ : Operand → Value} {o : Oper}

theorem box_cells (hG : HeapRep G V) {id : Nat} {cells : List AV} (h : V.H[id]? = some (.box cells)) : CellsAt V (V.ρ id) 0 cells := by
  obtain ⟨t, vs, h1, h2⟩ := hG.obj id _ h
  refine ⟨vs, h2, fun j hj => ?_⟩
  have : j < vs.length := by rw [h2.1]; exact hj
  simp [World.cell?, h1, List.getD_eq_getElem?_getD, this]
theorem arr_cells (hG : HeapRep G V) {id g sz : Nat} {fz : Bool} {xs : List (List AV)} (h : V.H[id]? = some (.arr g sz fz xs)) {k : Nat} {y : List AV} (hy : xs[k]? = some y) : y.length = sz ∧ CellsAt V (V.ρ id) (k * sz) y := by
  obtain ⟨t, c, h1, h2, h3, h4⟩ := hG.obj id _ h
  have hlt := (List.getElem?_eq_some_iff.1 hy).1
  have hlen : y.length = sz := h3 y (List.mem_of_getElem? hy)
  have hyk : xs.getD k [] = y := by rw [List.getD_eq_getElem?_getD, hy]; rfl
  refine ⟨hlen, (List.range sz).map fun j => c.getD (k * sz + j) undef, ⟨by simp [hlen], fun j hj => ?_⟩, fun j hj => ?_⟩
  · obtain ⟨v, hv, _, hr⟩ := h4 k j hlt (by omega)
    rw [hyk] at hr
    have e : ((List.range sz).map fun j => c.getD (k * sz + j) undef).getD j undef = v := by
      simp [List.getD_eq_getElem?_getD, show j < sz by omega, Array.getD_eq_getD_getElem?, hv]
    rw [e]; exact hr
  · obtain ⟨v, hv, _, hr⟩ := h4 k j hlt (by omega)
    have e : ((List.range sz).map fun j => c.getD (k * sz + j) undef).getD j undef = v := by
      simp [List.getD_eq_getElem?_getD, show j < sz by omega, Array.getD_eq_getD_getElem?, hv]
    rw [e]
    simp [World.cell?, h1, hv]

theorem apt_cur {id g k j : Nat} {v : Value} {sz : Nat} {fz : Bool} {xs : List (List AV)} (hH : V.H[id]? = some (.arr g sz fz xs)) (h : Rep V (.apt id g k j) v) : v = .pointer (some ⟨V.ρ id, k * sz + j, none⟩) := by
  have := (rep_apt h).2
  rw [hH] at this
  exact this.2 rfl
theorem own_cur {id g off len : Nat} {v : Value} {sz : Nat} {fz : Bool} {xs : List (List AV)} (hH : V.H[id]? = some (.arr g sz fz xs)) (h : Rep V (.own id g off len) v) : OwnRep V id sz off len v := by
  have := (rep_own h).2
  rw [hH] at this
  exact this.2 rfl

theorem read_sound {orc orc' : List Orc} {x : AV} {ps : List Prop} (h : evalRead P V.H ev o orc = some (x, orc', ps)) (hps : AllP ps) (hG : HeapRep G V) (hr : ∀ y ∈ o.op.operands, Rep V (ev y) (ρ y)) :
    ∃ v, (execOp ρ o).run P V.w = .ok (.value v) V.w ∧ Rep V x v := by
  unfold evalRead at h
  split at h
  · rename_i t y hop
    have hy : Rep V (ev y) (ρ y) := hr y (by simp [hop, Op.operands])
    split at h
    · rename_i id off e
      rw [e] at hy
      obtain ⟨_, he⟩ := rep_ptr hy
      split at h
      · rename_i cells hH
        cases hl : loadA P t (cells.drop off) with
        | none => simp [hl] at h
        | some z =>
          simp [hl] at h
          obtain ⟨rfl, _⟩ := h
          have hc := (box_cells hG hH).drop off
          rw [Nat.zero_add] at hc
          obtain ⟨v, hv, hrv⟩ := loadA_sound hl hc
          exact ⟨v, by rw [execOp, hop]; simp [he, Instr.loadAt, Instr.sureAddr, hv], hrv⟩
      · cases h
    · rename_i id g k j e
      rw [e] at hy
      split at h
      · rename_i g' sz fz xs y' orc2 hH
        cases hl : loadA P t (y'.drop j) with
        | none => simp [hl] at h
        | some z =>
          simp only [hl, Option.map_some, Option.some.injEq, Prod.mk.injEq] at h
          obtain ⟨rfl, _, rfl⟩ := h
          obtain ⟨eg, hps, _⟩ := hps
          subst eg
          have he := apt_cur hH hy
          obtain ⟨v, hv, hrv⟩ := loadA_sound hl ((arr_cells hG hH hps).2.drop j)
          exact ⟨v, by rw [execOp, hop]; simp [he, Instr.loadAt, Instr.sureAddr, hv], hrv⟩
      · cases h
    · cases h
  · rename_i t y f hop
    have hy : Rep V (ev y) (ρ y) := hr y (by simp [hop, Op.operands])
    split at h
    · rename_i n id g k j hf e
      rw [e] at hy
      split at h
      · rename_i g' sz fz xs hH
        cases h
        obtain ⟨eg, _⟩ := hps
        subst eg
        have he := apt_cur hH hy
        refine ⟨.pointer (some ⟨V.ρ id, k * sz + j + n, none⟩), by rw [execOp, hop]; simp [he, run_fieldAt hf], .apt _ _ _ _ _ ⟨rfl, ?_⟩⟩
        rw [hH]
        exact ⟨Nat.le_refl _, fun _ => by rw [Nat.add_assoc]⟩
      · cases h
    · cases h
  · rename_i t y i hop
    have hy : Rep V (ev y) (ρ y) := hr y (by simp [hop, Op.operands])
    have hi : Rep V (ev i) (ρ i) := hr i (by simp [hop, Op.operands])
    split at h
    · rename_i e id g off len n hu hxs hn
      rw [hxs] at hy
      split at h
      · rename_i s g' sz fz xs hs hH
        split at h
        · rename_i eg
          subst eg
          cases h
          obtain ⟨eg, hps⟩ := hps
          subst eg
          obtain ⟨h0, h1⟩ := hps.1
          obtain ⟨k, hk⟩ := litInt_sound hn hi
          obtain ⟨A, cap, c, t', hv, hA, h2, h3, h4, h5⟩ := own_cur hH hy
          have hA' := hA (by omega)
          refine ⟨.pointer (some ⟨V.ρ id, (off + n.toNat) * s + 0, none⟩), ?_, .apt _ _ _ _ _ ⟨rfl, ?_⟩⟩
          · rw [execOp, hop]
            simp [hv, hA', hk, Instr.indexAt, asIntOf, run_underlying hu, run_size hs, Addr.add_lit, h0, h1, Nat.add_mul]
          · rw [hH]; exact ⟨Nat.le_refl _, fun _ => rfl⟩
        · cases h
      · cases h
    · cases h
  · rename_i t y lo hi hop
    have hy : Rep V (ev y) (ρ y) := hr y (by simp [hop, Op.operands])
    have hlo : ∀ z, lo = some z → Rep V (ev z) (ρ z) := fun z hz => hr z (by simp [hop, Op.operands, hz])
    have hhi : ∀ z, hi = some z → Rep V (ev z) (ρ z) := fun z hz => hr z (by simp [hop, Op.operands, hz])
    have bd : ∀ {x : Option Operand} {d : Nat} {n : Int}, boundA ev d x = some n → (∀ z, x = some z → Rep V (ev z) (ρ z)) → 0 ≤ n → (x.map ρ = none ∧ n.toNat = d ∨ ∃ k, x.map ρ = some (.int k (n.toNat : Int))) := by
      intro x d n h hz hn
      rcases boundA_run h hz with ⟨rfl, rfl⟩ | ⟨z, k, rfl, hk⟩
      · exact .inl ⟨rfl, by simp⟩
      · exact .inr ⟨k, by rw [Option.map_some, hk, Int.toNat_of_nonneg hn]⟩
    split at h
    · rename_i e id g off len l hu hxs hl
      rw [hxs] at hy
      split at h
      · rename_i s g' sz fz xs hv hs hH hh
        split at h
        · rename_i eg
          subst eg
          cases h
          obtain ⟨eg, hps⟩ := hps
          subst eg
          obtain ⟨h1, h2, h3⟩ := hps.1
          obtain ⟨A, cap, c, t', he, hA, hcap, hmx, hhp, hsz⟩ := own_cur hH hy
          have hb := run_sliceBounds (P := P) (b := true) (len := len) (cap := cap) (bd hl hlo h1) (bd hh hhi (by omega)) (by omega) (by omega) V.w
          refine ⟨.slice (if cap = l.toNat then A else A.map (·.add (l.toNat * s))) (hv.toNat - l.toNat) (cap - l.toNat), ?_, .own _ _ _ _ _ ⟨rfl, ?_⟩⟩
          · rw [execOp, hop]
            simp [he, Instr.sliceAt, Instr.slice, run_underlying hu, run_size hs, hb]
          · rw [hH]
            refine ⟨Nat.le_refl _, fun _ => ⟨_, _, c, t', rfl, fun hne => ?_, by omega, by omega, hhp, ?_⟩⟩
            · rw [if_neg (by omega), hA (by omega)]
              simp [Addr.add_lit, Nat.add_mul]
            · rw [← hsz]; congr 1; omega
        · cases h
      · cases h
    · cases h
  · rename_i args ts hop
    split at h
    · rename_i y t ha ht
      split at h
      · rename_i e id g off len hu hx
        have hy : Rep V (ev y) (ρ y) := hr y (by simp [hop, Op.operands, Call.operands]; rw [← Array.mem_toList_iff, ha]; simp)
        rw [hx] at hy
        split at h
        · rename_i g' sz fz xs hH
          cases h
          obtain ⟨eg, _⟩ := hps
          subst eg
          obtain ⟨A, cap, c, t', he, _⟩ := own_cur hH hy
          have ha' : args = #[y] := by apply Array.ext'; simpa using ha
          have ht' : ts = #[t] := by apply Array.ext'; simpa using ht
          subst ha' ht'
          refine ⟨.int .i64 len, ?_, .pure _ _ (.lit _)⟩
          rw [execOp, hop]
          simp [resolve, invoke, builtin, Builtin.len_, run_underlying hu, he, goInt]
        · cases h
      · cases h
    · cases h
  · cases h
end
end Go.Am
