/- THE ABSTRACT MACHINE, 9: append. -/
import Derived.Test.YtbmimjjhifjofaaAm8
namespace Go.Am
open Go

/-- The elements that append's second argument brings. -/
def srcA (P : Program) (H : List AObj) (x : AV) (tx : TypeId) (s : Nat) : Option (List (List AV)) :=
  match P.underlying tx, x with
  | some (.slice _), .sl sz _ ys => if sz = s then some ys else none
  | some (.slice _), .lit (.slice none 0 0) => some []
  | some (.slice _), .own id _ off len => match H[id]? with
    | some (.arr _ sz _ xs) => if sz = s then some ((xs.drop off).take len) else none
    | _ => none
  | some .string, .lit (.string b) => if s = 1 then some (b.data.toList.map fun c => [.lit (.int .u8 c.toNat)]) else none
  | _, _ => none
/-- What must be known of it: an own slice's elements are there. -/
def srcObl (H : List AObj) (x : AV) (n : Nat) : List Prop :=
  match x with
  | .own id g _ len => match H[id]? with
    | some (.arr g' _ _ _) => [g' = g, n = len]
    | _ => []
  | _ => []

structure SrcOk (P : Program) (V : View) (ys : List (List AV)) (s : Nat) (u : Value) (f : Nat → Value) : Prop where
  len : ∀ w' : World, (Builtin.lenOf u).run P w' = .ok ys.length w'
  cells : ∀ w' : World, w'.heap = V.w.heap → (Builtin.firstCells s ys.length u).run P w' = .ok ((List.range (ys.length * s)).map f).toArray w'
  one : ∀ i, i < ys.length * s → (f i).oneCell' = true
  rep : ∀ k j, k < ys.length → j < s → Rep V ((ys.getD k []).getD j .dead) (f (k * s + j))
  sz : ∀ y ∈ ys, y.length = s

theorem divmod {n s i : Nat} (h : i < n * s) : i / s < n ∧ i % s < s ∧ i / s * s + i % s = i := by
  have hs : 0 < s := by
    rcases Nat.eq_zero_or_pos s with e | e
    · subst e; simp at h
    · exact e
  refine ⟨(Nat.div_lt_iff_lt_mul hs).2 h, Nat.mod_lt _ hs, ?_⟩
  have := Nat.div_add_mod i s
  rw [Nat.mul_comm] at this; exact this

theorem first_cells {P : Program} {w' : World} {s n cap b o : Nat} {A : Option Addr} {f : Nat → Value} (hA : 0 < n → A = some ⟨b, o, none⟩) (hc : ∀ i, i < n * s → w'.cell? ⟨b, o + i, none⟩ = some (f i)) :
    (Builtin.firstCells s n (.slice A n cap)).run P w' = .ok ((List.range (n * s)).map f).toArray w' := by
  rcases Nat.eq_zero_or_pos n with e | e
  · subst e
    cases A <;> simp [Builtin.firstCells, loadCells, loadCellsFrom]
  · rw [hA e]
    simp only [Builtin.firstCells]
    exact run_loadCells w' _ _ f fun j hj => by rw [Addr.add_lit]; exact hc j hj

section
variable {P : Program} {G : Nat → Option (List AV)} {V : View}

theorem src_sl {s : Nat} {tg : Bool} {ys : List (List AV)} {u : Value} (h : PRep V.w V.M (.sl s tg ys) u) : ∃ f, SrcOk P V ys s u f := by
  cases h with
  | sl _ _ _ A cap b o vs hA hb hcap ht hsz hc ho hr =>
    refine ⟨fun i => vs (i / s) (i % s), fun w' => rfl, fun w' hw => first_cells (b := b) (o := o) (fun hn => hA (List.length_pos_iff.1 hn)) (fun i hi => ?_), fun i hi => ?_, fun k j hk hj => ?_, hsz⟩
    · obtain ⟨h1, h2, h3⟩ := divmod hi
      have := hc _ _ h1 h2
      rw [Nat.add_assoc, h3] at this
      rw [← this]
      simp [World.cell?, hw]
    · obtain ⟨h1, h2, _⟩ := divmod hi
      exact ho _ _ h1 h2
    · have e1 : (k * s + j) / s = k := by rw [Nat.mul_comm, Nat.mul_add_div (by omega)]; simp [Nat.div_eq_of_lt hj]
      have e2 : (k * s + j) % s = j := by rw [Nat.mul_comm, Nat.mul_add_mod]; exact Nat.mod_eq_of_lt hj
      simp only [e1, e2]
      exact .pure _ _ (hr k j hk hj)

theorem src_nil {s : Nat} : SrcOk P V [] s (.slice none 0 0) (fun _ => undef) :=
  ⟨fun _ => rfl, fun w' _ => by simp [Builtin.firstCells], fun i hi => absurd hi (by simp), fun k j hk => absurd hk (by simp), by simp⟩

theorem arr_own {id g s off len : Nat} {fz : Bool} {xs : List (List AV)} {u : Value} (hG : HeapRep G V) (hH : V.H[id]? = some (.arr g s fz xs)) (h : OwnRep V id s off len u) (hle : off + len ≤ xs.length) :
    ∃ f, SrcOk P V ((xs.drop off).take len) s u f := by
  obtain ⟨A, cap, c, t, rfl, hA, h1, h2, h3, h4⟩ := h
  obtain ⟨t', c', k1, k2, k3, k4⟩ := hG.obj id _ hH
  rw [h3] at k1
  cases k1
  have hl : ((xs.drop off).take len).length = len := by simp; omega
  have hget : ∀ k, k < len → ((xs.drop off).take len).getD k [] = xs.getD (off + k) [] := fun k hk => by
    simp [List.getD_eq_getElem?_getD, hk]
  have cell : ∀ i, i < len * s → ∃ v, c[off * s + i]? = some v ∧ v.oneCell' = true ∧ Rep V ((xs.getD (off + i / s) []).getD (i % s) .dead) v := fun i hi => by
    obtain ⟨d1, d2, d3⟩ := divmod hi
    obtain ⟨v, hv, ho, hr⟩ := k4 (off + i / s) (i % s) (by omega) d2
    rw [Nat.add_mul, Nat.add_assoc, d3] at hv
    exact ⟨v, hv, ho, hr⟩
  refine ⟨fun i => c.getD (off * s + i) undef, fun w' => by rw [hl]; rfl, fun w' hw => ?_, fun i hi => ?_, fun k j hk hj => ?_, fun y hy => k3 y (List.mem_of_mem_drop (List.mem_of_mem_take hy))⟩
  · rw [hl]
    refine first_cells (b := V.ρ id) (o := off * s) (fun hn => hA (by omega)) fun i hi => ?_
    obtain ⟨v, hv, _⟩ := cell i hi
    simp [World.cell?, hw, h3, Array.getD_eq_getD_getElem?, hv]
  · rw [hl] at hi
    obtain ⟨v, hv, ho, _⟩ := cell i hi
    simp [Array.getD_eq_getD_getElem?, hv, ho]
  · rw [hl] at hk
    rw [hget k hk]
    have hks : k * s + j < len * s := Nat.lt_of_lt_of_le (by rw [Nat.add_mul]; omega : k * s + j < (k + 1) * s) (Nat.mul_le_mul_right s hk)
    obtain ⟨v, hv, _, hr⟩ := cell (k * s + j) hks
    have e1 : (k * s + j) / s = k := by rw [Nat.mul_comm, Nat.mul_add_div (by omega)]; simp [Nat.div_eq_of_lt hj]
    have e2 : (k * s + j) % s = j := by rw [Nat.mul_comm, Nat.mul_add_mod]; exact Nat.mod_eq_of_lt hj
    rw [e1, e2] at hr
    simp only [Array.getD_eq_getD_getElem?, hv, Option.getD_some]
    exact hr

theorem src_str {b : ByteArray} : SrcOk P V (b.data.toList.map fun c => [AV.lit (.int .u8 c.toNat)]) 1 (.string b) (fun i => .int .u8 ((b.data.toList.getD i 0).toNat)) := by
  have hl : (b.data.toList.map fun c => [AV.lit (.int .u8 c.toNat)]).length = b.size := by simp
  have he : (b.extract 0 b.size).data = b.data := by rw [ByteArray.data_extract]; exact Array.extract_size
  refine ⟨fun w' => by rw [hl]; rfl, fun w' _ => ?_, fun i hi => rfl, fun k j hk hj => ?_, fun y hy => ?_⟩
  · rw [hl, Nat.mul_one]
    simp only [Builtin.firstCells, Sem.run_pure, he]
    congr 1
    apply Array.ext
    · rw [Array.size_map]
      show b.data.size = (List.map _ (List.range b.size)).length
      rw [List.length_map, List.length_range]; rfl
    · intro i h1 h2
      have hi : i < b.data.size := by rw [Array.size_map] at h1; exact h1
      have hi' : i < b.data.toList.length := hi
      have hg : b.data.toList.getD i 0 = b.data[i] := by rw [List.getD_eq_getElem?_getD, List.getElem?_eq_getElem hi']; rfl
      rw [Array.getElem_map]
      simp only [List.getElem_toArray, List.getElem_map]
      rw [List.getElem_range, hg]
  · have hj0 : j = 0 := by omega
    subst hj0
    rw [hl] at hk
    have hk' : k < b.data.toList.length := hk
    have : ((b.data.toList.map fun c => [AV.lit (.int .u8 c.toNat)]).getD k []).getD 0 .dead = .lit (.int .u8 ((b.data.toList.getD k 0).toNat)) := by
      have h1 : (b.data.toList.map fun c => [AV.lit (.int .u8 c.toNat)]).getD k [] = [AV.lit (.int .u8 (b.data.toList[k].toNat))] := by
        rw [List.getD_eq_getElem?_getD, List.getElem?_map, List.getElem?_eq_getElem hk']; rfl
      have h2 : b.data.toList.getD k 0 = b.data.toList[k] := by rw [List.getD_eq_getElem?_getD, List.getElem?_eq_getElem hk']; rfl
      rw [h1, h2]; rfl
    rw [this]
    simp only [Nat.mul_one, Nat.add_zero]
    exact .pure _ _ (.lit _)
  · obtain ⟨c, _, rfl⟩ := List.mem_map.1 hy
    rfl

theorem src_sound {H : List AObj} (hHV : V.H = H) {x : AV} {tx : TypeId} {s : Nat} {ys : List (List AV)} {u : Value} (h : srcA P H x tx s = some ys) (ho : AllP (srcObl H x ys.length)) (hG : HeapRep G V) (hr : Rep V x u) :
    (∃ f, SrcOk P V ys s u f) ∧ ((∃ e, P.underlying tx = some (.slice e)) ∨ P.underlying tx = some .string) := by
  subst hHV
  unfold srcA at h
  split at h
  · rename_i e sz tg ys' hu
    split at h
    · rename_i hs; cases h; subst hs; exact ⟨src_sl (rep_sl hr), .inl ⟨_, hu⟩⟩
    · cases h
  · rename_i hu; cases h; rw [rep_lit hr]; exact ⟨⟨_, src_nil⟩, .inl ⟨_, hu⟩⟩
  · rename_i e id g off len hu
    split at h
    · rename_i g' sz fz xs hH
      split at h
      · rename_i hc
        subst hc
        cases h
        simp only [srcObl, hH] at ho
        obtain ⟨hgg, hlen, _⟩ := ho
        subst hgg
        simp at hlen
        refine ⟨?_, .inl ⟨_, hu⟩⟩
        have hown := own_cur hH hr
        by_cases h0 : len = 0
        · subst h0
          obtain ⟨A, cap, c, t, rfl, hA, _⟩ := hown
          refine ⟨fun _ => undef, fun _ => by simp; rfl, fun w' _ => ?_, fun i hi => absurd hi (by simp), fun k j hk => absurd hk (by simp), by simp⟩
          cases A <;> simp [Builtin.firstCells, loadCells, loadCellsFrom]
        · exact arr_own hG hH hown (by omega)
      · cases h
    · cases h
  · rename_i b hu
    split at h
    · rename_i hs; cases h; subst hs; rw [rep_lit hr]; exact ⟨⟨_, src_str⟩, .inr hu⟩
    · cases h
  · cases h

/-! The runs -/
theorem run_append_out (w : World) (ts tx ty e : TypeId) (i : TypeInfo) (z : Value) (ht : P.underlying ts = some (.slice e)) (hx : (∃ e', P.underlying tx = some (.slice e')) ∨ P.underlying tx = some .string) (hi : P.info? e = some i) (hz : i.zero = some z)
    (base : Option Addr) (sLen sCap n : Nat) (x : Value) (olds news : List Value) (hlen : ∀ w' : World, (Builtin.lenOf x).run P w' = .ok n w')
    (hold : ∀ w' : World, w'.heap = w.heap → (Builtin.firstCells i.size sLen (.slice base sLen sCap)).run P w' = .ok olds.toArray w')
    (hnew : ∀ w' : World, w'.heap = w.heap → (Builtin.firstCells i.size n x).run P w' = .ok news.toArray w')
    (hg : sCap < sLen + n) (h63 : ((sLen + n : Nat) : Int) ≤ 9223372036854775807) (hfit : Builtin.nextslicecap (sLen + n) sCap * i.bytes ≤ 281474976710656) :
    (Builtin.append_ #[ts, tx] ty #[.slice base sLen sCap, x]).run P w =
      .ok (.slice (some ⟨w.heap.size, 0, none⟩) (sLen + n) (grownCap w (sLen + n) sCap e))
        (w.drew.alloc (.cells (olds.toArray ++ news.toArray ++ Builtin.zeroCells z.cells (grownCap w (sLen + n) sCap e - (sLen + n))) e)) := by
  have hn : ¬ (sLen + n ≤ sCap) := by omega
  have h63' : ¬ (9223372036854775807 < ((sLen : Int) + (n : Int))) := by omega
  have h48' : ¬ (281474976710656 < Builtin.nextslicecap (sLen + n) sCap * i.bytes) := by omega
  have hfo := hold w.drew rfl
  have hfn := hnew w.drew rfl
  rcases hx with ⟨e', hx⟩ | hx <;>
  · simp [Builtin.append_, run_underlying ht, run_underlying hx, sizeOf, typeInfo, zeroValue, hi, hz, hlen, hn, h63', h48', Question.forced, hfo, hfn, newRow, grownCap]
    congr 2
    apply Array.ext'
    simp [List.append_assoc]

theorem run_append_in (w : World) (ts tx ty e : TypeId) (i : TypeInfo) (ht : P.underlying ts = some (.slice e)) (hx : (∃ e', P.underlying tx = some (.slice e')) ∨ P.underlying tx = some .string) (hi : P.info? e = some i)
    (g o sLen sCap n : Nat) (x : Value) (news : List Value) (cur : Array Value) (te : TypeId) (hlen : ∀ w' : World, (Builtin.lenOf x).run P w' = .ok n w')
    (hnew : (Builtin.firstCells i.size n x).run P w = .ok news.toArray w) (h1 : ∀ u ∈ news, u.oneCell' = true)
    (hroom : sLen + n ≤ sCap) (hg : w.heap[g]? = some (.cells cur te (0, 0))) (hfit : o + sLen * i.size + news.length ≤ cur.size) :
    (Builtin.append_ #[ts, tx] ty #[.slice (some ⟨g, o, none⟩) sLen sCap, x]).run P w =
      .ok (.slice (some ⟨g, o, none⟩) (sLen + n) sCap) (w.setRow g (splice cur.toList (o + sLen * i.size) news).toArray) := by
  have hst := run_storeCells_at P g (o + sLen * i.size) te news 0 cur w hg (by simpa using hfit) h1
  simp only [Nat.add_zero] at hst
  rcases hx with ⟨e', hx⟩ | hx <;>
  · simp [Builtin.append_, run_underlying ht, run_underlying hx, sizeOf, typeInfo, hi, hlen, hroom, hnew, Addr.add_lit, hst, splice]

theorem run_append_none (w : World) (ts tx ty e : TypeId) (i : TypeInfo) (ht : P.underlying ts = some (.slice e)) (hx : (∃ e', P.underlying tx = some (.slice e')) ∨ P.underlying tx = some .string) (hi : P.info? e = some i)
    (base : Option Addr) (sLen sCap : Nat) (x : Value) (hlen : ∀ w' : World, (Builtin.lenOf x).run P w' = .ok 0 w')
    (hnew : (Builtin.firstCells i.size 0 x).run P w = .ok #[] w) (hroom : sLen ≤ sCap) :
    (Builtin.append_ #[ts, tx] ty #[.slice base sLen sCap, x]).run P w = .ok (.slice base sLen sCap) w := by
  rcases hx with ⟨e', hx⟩ | hx <;>
  · cases base <;> simp [Builtin.append_, run_underlying ht, run_underlying hx, sizeOf, typeInfo, hi, hlen, hroom, hnew, storeCells]
end
end Go.Am
