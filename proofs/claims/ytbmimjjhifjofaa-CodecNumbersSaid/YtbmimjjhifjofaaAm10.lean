/- THE ABSTRACT MACHINE, 10: operations that make memory or write it. -/
import Derived.Test.YtbmimjjhifjofaaAm9
namespace Go.Am
open Go

def pure1 : AV → Bool
  | .lit _ | .imm _ | .sl .. => true
  | _ => false
def AV.pureB : AV → Bool
  | .lit _ | .imm _ | .sl .. => true
  | .fn _ as bs => as.all pure1 && bs.all pure1
  | .ifc _ x => pure1 x
  | _ => false
def chunks (s n : Nat) (cells : List AV) : List (List AV) := (List.range n).map fun k => (cells.drop (k * s)).take s
def zerosA (z : List AV) (n : Nat) : List AV := (List.range n).map fun i => z.getD (i % z.length) .dead

def appendA (P : Program) (H : List AObj) (ts tx : TypeId) (a x : AV) (orc : List Orc) : Option (AV × List AObj × List Orc × List Prop) :=
  match P.underlying ts with
  | some (.slice e) => match P.info? e with
    | some i => match i.zero, srcA P H x tx i.size with
      | some z, some ys =>
        if 0 < i.bytes ∧ 0 < i.size ∧ z.cells.size = i.size then
          (match a with
          | .lit (.slice none 0 0) => match orc with
            | .emp :: orc' => some (a, H, orc', (ys = []) :: srcObl H x ys.length)
            | _ => some (.own H.length 0 0 ys.length, H ++ [.arr 0 i.size false ys], orc, (ys ≠ []) :: (ys.length * i.bytes ≤ 140737488355328) :: srcObl H x ys.length)
          | .sl sz true xs => if sz = i.size then (match orc with
            | .emp :: orc' => some (a, H, orc', (ys = []) :: srcObl H x ys.length)
            | _ => some (.own H.length 0 0 (xs.length + ys.length), H ++ [.arr 0 i.size false (xs ++ ys)], orc, (ys ≠ []) :: ((xs.length + ys.length) * i.bytes ≤ 140737488355328) :: srcObl H x ys.length)) else none
          | .own id g 0 len => match H[id]? with
            | some (.arr g' sz false xs) => if sz = i.size then
                some (.own id (g + 1) 0 (len + ys.length), H.set id (.arr (g + 1) sz false (xs ++ ys)), orc, (g' = g) :: (len = xs.length) :: ((len + ys.length) * i.bytes ≤ 140737488355328) :: srcObl H x ys.length) else none
            | _ => none
          | _ => none) else none
      | _, _ => none
    | none => none
  | _ => none

def evalEff (P : Program) (H : List AObj) (ev : Operand → AV) (o : Oper) (orc : List Orc) : Option (AV × List AObj × List Orc × List Prop) :=
  match o.op with
  | .alloc t => match P.info? t with
    | some i => match i.zero with
      | some z => some (.ptr H.length 0, H ++ [.box (z.cells.toList.map .lit)], orc, [])
      | none => none
    | none => none
  | .box _ x => match (ev x).cells with
    | some cs => some (.ptr H.length 0, H ++ [.box cs], orc, [])
    | none => none
  | .store t x y => match tSize P t, (ev y).cells, ev x with
    | some n, some cs, .ptr id off => match H[id]? with
      | some (.box cells) => if cs.length = n ∧ off + cs.length ≤ cells.length ∧ cs.all AV.one = true then some (.lit undef, H.set id (.box (splice cells off cs)), orc, []) else none
      | _ => none
    | some n, some cs, .apt id g k j => match H[id]?, orc with
      | some (.arr g' sz false xs), .elem e :: orc' => if cs.length = n ∧ j + cs.length ≤ sz ∧ cs.all AV.one = true then
          some (.lit undef, H.set id (.arr g sz false (xs.set k (splice e j cs))), orc', [g' = g, xs[k]? = some e]) else none
      | _, _ => none
    | _, _, _ => none
  | .buildSlice t len parts => match P.underlying t with
    | some (.slice e) => match P.info? e with
      | some i => match i.zero with
        | some z => if len * i.size ≤ 16777216 ∧ len ≤ 16777216 then
            (match fillA (fun k => some (k * i.size, i.size)) (zerosA (z.cells.toList.map .lit) (len * i.size)) (parts.toList.map fun (i, x) => (i, ev x)) with
            | some out => if out.length = len * i.size ∧ out.all AV.one = true then
                (match orc with
                | .own :: orc' => some (.own H.length 0 0 len, H ++ [.arr 0 i.size false (chunks i.size len out)], orc', [])
                | _ => if out.all AV.pureB = true then some (.sl i.size true (chunks i.size len out), H, orc, []) else none) else none
            | none => none) else none
        | none => none
      | none => none
    | _ => none
  | .makeSlice t l c => match P.underlying t, litInt (ev l), litInt (ev c) with
    | some (.slice e), some n, some m => match P.info? e with
      | some i => match i.zero with
        | some z => if z.cells.size = i.size ∧ (z.cells.toList.all fun v => v.oneCell') = true then
            some (.own H.length 0 0 n.toNat, H ++ [.arr 0 i.size false (List.replicate n.toNat (z.cells.toList.map .lit))], orc, [0 ≤ n ∧ n ≤ m ∧ (i.bytes : Int) * m ≤ 281474976710656 ∧ m ≤ 4611686018427387904]) else none
        | none => none
      | none => none
    | _, _, _ => none
  | .convert src dst x => match P.underlying src, P.underlying dst, ev x with
    | some _, some (.slice e), .lit (.string s) => if isU8 P e = true then some (.sl 1 false (s.data.toList.map fun c => [.lit (.int .u8 c.toNat)]), H, orc, []) else none
    | _, _, _ => none
  | .call { callee := .builtin .append, args := args, argTypes := ts } => match args.toList, ts.toList with
    | [a, x], [ta, tx] => appendA P H ta tx (ev a) (ev x) orc
    | _, _ => none
  | _ => none

/-- What an operation that makes or writes memory has brought about. -/
def EffOk (P : Program) (G : Nat → Option (List AV)) (V : View) (ρ : Operand → Value) (o : Oper) (x : AV) (H' : List AObj) : Prop :=
  ∃ (V' : View) (r : Next) (v : Value), (execOp ρ o).run P V.w = .ok r V'.w ∧ (r = .value v ∨ (r = .skip ∧ v = undef)) ∧ V'.H = H' ∧ Step V V' ∧ HeapRep G V' ∧ Rep V' x v

section
variable {P : Program} {G : Nat → Option (List AV)} {V : View} {ev : Operand → AV} {ρ : Operand → Value} {o : Oper}

theorem pure1_sound {x : AV} {v : Value} (h : pure1 x = true) (hr : Rep V x v) : PRep V.w V.M x v := by
  cases x <;> first | (cases h; done) | skip
  case lit u => rw [rep_lit hr]; exact .lit _
  case imm cs => exact rep_imm hr
  case sl sz t xs => exact rep_sl hr
theorem pures_sound {xs : List AV} {vs : List Value} (h : xs.all pure1 = true) (hr : Reps V xs vs) : ∀ j, j < xs.length → PRep V.w V.M (xs.getD j .dead) (vs.getD j undef) := fun j hj =>
  pure1_sound (by rw [List.getD_eq_getElem?_getD, List.getElem?_eq_getElem hj]; exact List.all_eq_true.1 h _ (List.getElem_mem hj)) (hr.2 j hj)
theorem pureB_sound {x : AV} {v : Value} (h : x.pureB = true) (hr : Rep V x v) : PRep V.w V.M x v := by
  cases x <;> first | (cases h; done) | skip
  case lit u => rw [rep_lit hr]; exact .lit _
  case imm cs => exact rep_imm hr
  case sl sz t xs => exact rep_sl hr
  case fn f as bs =>
    obtain ⟨us, vs, rfl, ha, hb⟩ := rep_fn hr
    simp only [AV.pureB, Bool.and_eq_true] at h
    exact .fn f as bs us vs ha.1 hb.1 (pures_sound h.1 ha) (pures_sound h.2 hb)
  case ifc t y =>
    obtain ⟨v, rfl, hy⟩ := rep_ifc hr
    exact .ifc t y v (pure1_sound h hy)

theorem cell_push {w' : World} {h : Array Obj} {cs : Array Value} {t : TypeId} (hh : w'.heap = h.push (.cells cs t)) (j : Nat) : w'.cell? ⟨h.size, j, none⟩ = cs[j]? := by
  simp [World.cell?, hh]
theorem heap_push {w' : World} {h : Array Obj} {o : Obj} (hh : w'.heap = h.push o) : w'.heap[h.size]? = some o := by rw [hh]; simp

theorem new_box (hG : HeapRep G V) {cells : List AV} {vs : List Value} {t : TypeId} (hr : Reps V cells vs) :
    ∃ V' : View, V'.w = V.w.alloc (.cells vs.toArray t) ∧ V'.H = V.H ++ [.box cells] ∧ Step V V' ∧ HeapRep G V' ∧ Rep V' (.ptr V.H.length 0) (.pointer (some ⟨V.w.heap.size, 0, none⟩)) := by
  obtain ⟨V', h1, h2, h3, h4, h5⟩ := step_new hG (w' := V.w.alloc (.cells vs.toArray t)) (obj := .box cells) rfl rfl rfl rfl fun V' hw hs =>
    ⟨t, vs, by rw [hw]; exact heap_push rfl, hr.step hs⟩
  refine ⟨V', h1, h2, h3, h4, ?_⟩
  rw [← h5]
  exact .ptr _ 0 ⟨.box cells, by rw [h2]; simp, rfl⟩

theorem run_storeVar_at {w : World} {b off : Nat} {t' ty : TypeId} {n : Nat} {cur : Array Value} {v : Value} (hs : tSize P ty = some n) (hc : w.heap[b]? = some (.cells cur t' (0, 0))) (hn : v.cells.size = n) (hfit : off + n ≤ cur.size)
    (h1 : ∀ u ∈ v.cells.toList, u.oneCell' = true) : (storeVar ty ⟨b, off, none⟩ v).run P w = .ok () (w.setRow b (splice cur.toList off v.cells.toList).toArray) := by
  have := run_storeCells_at P b off t' v.cells.toList 0 cur w hc (by simp; omega) h1
  simp only [Nat.add_zero] at this
  simp [storeVar, run_size hs, hn, this, splice]

theorem chunks_get (s n : Nat) (cells : List AV) (hl : cells.length = n * s) {k : Nat} (hk : k < n) : (chunks s n cells).getD k [] = (cells.drop (k * s)).take s ∧ ((cells.drop (k * s)).take s).length = s := by
  have hle : k * s + s ≤ n * s := by
    have := Nat.mul_le_mul_right s (show k + 1 ≤ n by omega)
    rw [Nat.add_mul] at this; omega
  exact ⟨by simp [chunks, List.getD_eq_getElem?_getD, hk], by simp; omega⟩
theorem chunks_cell (s n : Nat) (cells : List AV) (hl : cells.length = n * s) {k j : Nat} (hk : k < n) (hj : j < s) : ((chunks s n cells).getD k []).getD j .dead = cells.getD (k * s + j) .dead := by
  rw [(chunks_get s n cells hl hk).1]
  simp [List.getD_eq_getElem?_getD, hj, List.getElem?_drop]
theorem chunks_len (s n : Nat) (cells : List AV) : (chunks s n cells).length = n := by simp [chunks]
theorem chunks_sz (s n : Nat) (cells : List AV) (hl : cells.length = n * s) : ∀ x ∈ chunks s n cells, x.length = s := by
  intro x hx
  obtain ⟨k, hk, rfl⟩ := List.mem_map.1 hx
  exact (chunks_get s n cells hl (List.mem_range.1 hk)).2
theorem cell_lt_of {s n k j : Nat} (hk : k < n) (hj : j < s) : k * s + j < n * s := by
  have := Nat.mul_le_mul_right s (show k + 1 ≤ n by omega)
  rw [Nat.add_mul] at this; omega

theorem Reps.get {xs : List AV} {vs : List Value} (h : Reps V xs vs) {j : Nat} (hj : j < xs.length) : ∃ v, vs[j]? = some v ∧ Rep V (xs.getD j .dead) v := by
  have hj' : j < vs.length := by rw [h.1]; exact hj
  have := h.2 j hj
  rw [List.getD_eq_getElem?_getD, List.getD_eq_getElem?_getD, List.getElem?_eq_getElem hj'] at this
  exact ⟨vs[j], List.getElem?_eq_getElem hj', by rw [List.getD_eq_getElem?_getD]; exact this⟩

/-- A new array. -/
theorem new_arr (hG : HeapRep G V) {w' : World} {t : TypeId} {c : Array Value} {s : Nat} {xs : List (List AV)} {cap : Nat} (hh : w'.heap = V.w.heap.push (.cells c t)) (h1 : w'.os = V.w.os) (h2 : w'.tape = V.w.tape) (h3 : w'.output = V.w.output)
    (hsz : ∀ x ∈ xs, x.length = s) (hcap : xs.length ≤ cap) (hmx : cap ≤ maxLen) (hcs : cap * s = c.size)
    (hc : ∀ k j, k < xs.length → j < s → ∃ v, c[k * s + j]? = some v ∧ v.oneCell' = true ∧ Rep V ((xs.getD k []).getD j .dead) v) :
    ∃ V' : View, V'.w = w' ∧ V'.H = V.H ++ [.arr 0 s false xs] ∧ Step V V' ∧ HeapRep G V' ∧ Rep V' (.own V.H.length 0 0 xs.length) (.slice (some ⟨V.w.heap.size, 0, none⟩) xs.length cap) := by
  have hle : xs.length * s ≤ c.size := by rw [← hcs]; exact Nat.mul_le_mul_right s hcap
  obtain ⟨V', k1, k2, k3, k4, k5⟩ := step_new hG (w' := w') (obj := .arr 0 s false xs) hh h1 h2 h3 fun V' hw hs =>
    ⟨t, c, by rw [hw]; exact heap_push hh, hle, hsz, fun k j hk hj => let ⟨v, hv, ho, hr⟩ := hc k j hk hj; ⟨v, hv, ho, hr.step hs⟩⟩
  refine ⟨V', k1, k2, k3, k4, .own _ _ _ _ _ ⟨rfl, ?_⟩⟩
  have : V'.H[V.H.length]? = some (.arr 0 s false xs) := by rw [k2]; simp
  rw [this]
  exact ⟨Nat.le_refl _, fun _ => ⟨_, cap, c, t, rfl, fun _ => by rw [k5]; simp, hcap, hmx, by rw [k1, k5]; exact heap_push hh, by rw [Nat.zero_add]; exact hcs⟩⟩


theorem rep_own_mk {V' : View} {id g s len cap : Nat} {xs : List (List AV)} {A : Option Addr} {c : Array Value} {t : TypeId} (h1 : V'.H[id]? = some (.arr g s false xs)) (hA : cap ≠ 0 → A = some ⟨V'.ρ id, 0, none⟩) (h2 : len ≤ cap) (h3 : cap ≤ maxLen)
    (h4 : V'.w.heap[V'.ρ id]? = some (.cells c t (0, 0))) (h5 : cap * s = c.size) : Rep V' (.own id g 0 len) (.slice A len cap) := by
  refine .own _ _ _ _ _ ⟨rfl, ?_⟩
  rw [h1]
  exact ⟨Nat.le_refl _, fun _ => ⟨A, cap, c, t, rfl, fun h => by rw [Nat.zero_mul]; exact hA h, h2, h3, h4, by rw [Nat.zero_add]; exact h5⟩⟩

/-- What stands in an array: elements xs over the values c. -/
def ArrOk (V : View) (s : Nat) (xs : List (List AV)) (c : Array Value) : Prop :=
  xs.length * s ≤ c.size ∧ (∀ x ∈ xs, x.length = s) ∧ ∀ k j, k < xs.length → j < s → ∃ v, c[k * s + j]? = some v ∧ v.oneCell' = true ∧ Rep V ((xs.getD k []).getD j .dead) v
theorem ArrOk.step {V V' : View} (hs : Step V V') {s : Nat} {xs : List (List AV)} {c : Array Value} (h : ArrOk V s xs c) : ArrOk V' s xs c :=
  ⟨h.1, h.2.1, fun k j hk hj => let ⟨v, h1, h2, h3⟩ := h.2.2 k j hk hj; ⟨v, h1, h2, h3.step hs⟩⟩

theorem append_get {xs ys : List (List AV)} {k : Nat} : (xs ++ ys).getD k [] = if k < xs.length then xs.getD k [] else ys.getD (k - xs.length) [] := by
  split <;> simp [List.getD_eq_getElem?_getD, List.getElem?_append, *]

theorem arr_append {s : Nat} {xs ys : List (List AV)} {c : Array Value} {f0 f : Nat → Value} (h0 : ∀ j, j < xs.length * s → c[j]? = some (f0 j)) (h1 : ∀ j, j < ys.length * s → c[xs.length * s + j]? = some (f j)) (hsz : (xs.length + ys.length) * s ≤ c.size)
    (hx : ∀ y ∈ xs, y.length = s) (hy : ∀ y ∈ ys, y.length = s) (o0 : ∀ j, j < xs.length * s → (f0 j).oneCell' = true) (o1 : ∀ j, j < ys.length * s → (f j).oneCell' = true)
    (r0 : ∀ k j, k < xs.length → j < s → Rep V ((xs.getD k []).getD j .dead) (f0 (k * s + j))) (r1 : ∀ k j, k < ys.length → j < s → Rep V ((ys.getD k []).getD j .dead) (f (k * s + j))) : ArrOk V s (xs ++ ys) c := by
  refine ⟨by rw [List.length_append]; exact hsz, fun y hm => (List.mem_append.1 hm).elim (hx y) (hy y), fun k j hk hj => ?_⟩
  rw [List.length_append] at hk
  rw [append_get]
  by_cases hlt : k < xs.length
  · have hkj : k * s + j < xs.length * s := cell_lt_of hlt hj
    rw [if_pos hlt]
    exact ⟨_, h0 _ hkj, o0 _ hkj, r0 k j hlt hj⟩
  · have hk2 : k - xs.length < ys.length := by omega
    have hkj : (k - xs.length) * s + j < ys.length * s := cell_lt_of hk2 hj
    have e1 : k * s + j = xs.length * s + ((k - xs.length) * s + j) := by
      rw [← Nat.add_assoc, ← Nat.add_mul]; congr 2; omega
    rw [if_neg hlt, e1]
    exact ⟨_, h1 _ hkj, o1 _ hkj, r1 _ j hk2 hj⟩

theorem append_grow {ts tx ty e : TypeId} {i : TypeInfo} {z : Value} (hu : P.underlying ts = some (.slice e)) (hi : P.info? e = some i) (hz : i.zero = some z) (hby : 0 < i.bytes) (hzs : z.cells.size = i.size)
    {ux : Value} {xs ys : List (List AV)} {f0 f : Nat → Value} (hf : SrcOk P V ys i.size ux f) (hty : (∃ e, P.underlying tx = some (TypeDesc.slice e)) ∨ P.underlying tx = some TypeDesc.string)
    (base : Option Addr) (sCap : Nat) (hxsz : ∀ y ∈ xs, y.length = i.size)
    (hold : ∀ w' : World, w'.heap = V.w.heap → (Builtin.firstCells i.size xs.length (.slice base xs.length sCap)).run P w' = .ok ((List.range (xs.length * i.size)).map f0).toArray w') (hone : ∀ j, j < xs.length * i.size → (f0 j).oneCell' = true)
    (hrep0 : ∀ k j, k < xs.length → j < i.size → Rep V ((xs.getD k []).getD j .dead) (f0 (k * i.size + j))) (hcap : sCap < xs.length + ys.length) (hbytes : (xs.length + ys.length) * i.bytes ≤ 140737488355328) :
    ∃ cap c, xs.length + ys.length ≤ cap ∧ cap ≤ maxLen ∧ cap * i.size = c.size ∧ (Builtin.append_ #[ts, tx] ty #[.slice base xs.length sCap, ux]).run P V.w = .ok (.slice (some ⟨V.w.heap.size, 0, none⟩) (xs.length + ys.length) cap) (V.w.drew.alloc (.cells c e)) ∧
      ArrOk V i.size (xs ++ ys) c := by
  have hneed : xs.length + ys.length ≤ 140737488355328 := Nat.le_trans (Nat.le_mul_of_pos_right _ hby) hbytes
  have hmx : xs.length + ys.length ≤ maxLen := by unfold maxLen; omega
  have hfit : Builtin.nextslicecap (xs.length + ys.length) sCap * i.bytes ≤ 281474976710656 := by
    have := Nat.mul_le_mul_right i.bytes (nextslicecap_le hcap)
    rw [Nat.mul_assoc] at this; omega
  have hrun := run_append_out V.w ts tx ty e i z hu hty hi hz base xs.length sCap ys.length ux _ _ hf.len hold hf.cells hcap (by omega) hfit
  have hge := grownCap_ge V.w (xs.length + ys.length) sCap e
  have hcs : grownCap V.w (xs.length + ys.length) sCap e * i.size = (((List.range (xs.length * i.size)).map f0).toArray ++ ((List.range (ys.length * i.size)).map f).toArray ++ Builtin.zeroCells z.cells (grownCap V.w (xs.length + ys.length) sCap e - (xs.length + ys.length))).size := by
    simp only [Array.size_append, List.size_toArray, List.length_map, List.length_range, size_zeroCells, hzs, ← Nat.add_mul]
    congr 1; omega
  refine ⟨_, _, hge, grownCap_le_maxLen V.w _ sCap e hmx, hcs, hrun, arr_append (f0 := f0) (f := f) (fun j hj => ?_) (fun j hj => ?_) ?_ hxsz hf.sz hone hf.one hrep0 hf.rep⟩
  · rw [Array.append_assoc, Array.getElem?_append_left (by simpa using hj)]
    simp [hj]
  · rw [Array.append_assoc, Array.getElem?_append_right (by simp), Array.getElem?_append_left (by simp; exact hj)]
    simp [hj]
  · rw [← hcs]; exact Nat.mul_le_mul_right _ hge

theorem splice_get {a m : Nat} {c : List Value} {news : List Value} (hm : news.length = m) (hfit : a + m ≤ c.length) (j : Nat) : (splice c a news)[j]? = if j < a then c[j]? else if j < a + m then news[j - a]? else c[j]? := by
  unfold Am.splice
  simp only [List.getElem?_append, List.length_append, List.length_take, hm, List.getElem?_take, List.getElem?_drop]
  rw [show min a c.length = a by omega]
  by_cases h1 : j < a
  · rw [if_pos (by omega), if_pos h1, if_pos h1, if_pos h1]
  · by_cases h2 : j < a + m
    · rw [if_pos h2, if_neg h1, if_neg h1, if_pos h2]
    · rw [if_neg h2, if_neg h1, if_neg h2]; congr 1; omega
theorem splice_len {a m : Nat} {c : List Value} {news : List Value} (hm : news.length = m) (hfit : a + m ≤ c.length) : (splice c a news).length = c.length := by
  unfold Am.splice; simp [hm]; omega

/-- Where an own array has room. -/
theorem append_in {ts tx ty e : TypeId} {i : TypeInfo} (hu : P.underlying ts = some (.slice e)) (hi : P.info? e = some i) {ux : Value} {ys : List (List AV)} {f : Nat → Value} (hf : SrcOk P V ys i.size ux f)
    (hty : (∃ e, P.underlying tx = some (TypeDesc.slice e)) ∨ P.underlying tx = some TypeDesc.string) (hG : HeapRep G V) {id g cap : Nat} {xs : List (List AV)} {c : Array Value} {t : TypeId} (hH : V.H[id]? = some (.arr g i.size false xs))
    (hc3 : V.w.heap[V.ρ id]? = some (.cells c t (0, 0))) (hc4 : cap * i.size = c.size) (hmx : cap ≤ maxLen) (hroom : xs.length + ys.length ≤ cap) (ok : ArrOk V i.size xs c) :
    ∃ (V' : View) (v : Value), (Builtin.append_ #[ts, tx] ty #[.slice (some ⟨V.ρ id, 0, none⟩) xs.length cap, ux]).run P V.w = .ok v V'.w ∧ V'.H = V.H.set id (.arr (g + 1) i.size false (xs ++ ys)) ∧ Step V V' ∧ HeapRep G V' ∧ Rep V' (.own id (g + 1) 0 (xs.length + ys.length)) v := by
  have hlt := hG.lt id (List.getElem?_eq_some_iff.1 hH).1
  obtain ⟨news, hnews⟩ : ∃ news : List Value, news = (List.range (ys.length * i.size)).map f := ⟨_, rfl⟩
  have hlen : news.length = ys.length * i.size := by rw [hnews]; simp
  have hfit : xs.length * i.size + ys.length * i.size ≤ c.size := by
    rw [← hc4, ← Nat.add_mul]; exact Nat.mul_le_mul_right _ hroom
  have hone : ∀ u ∈ news, u.oneCell' = true := fun u hu => by
    rw [hnews] at hu
    obtain ⟨j, hj, rfl⟩ := List.mem_map.1 hu
    exact hf.one j (List.mem_range.1 hj)
  have hcl := hf.cells V.w rfl
  rw [← hnews] at hcl
  have hn := run_append_in (P := P) V.w ts tx ty e i hu hty hi (V.ρ id) 0 xs.length cap ys.length ux news c t hf.len hcl hone hroom hc3 (by rw [hlen]; omega)
  rw [Nat.zero_add] at hn
  obtain ⟨L, hL⟩ : ∃ L : List Value, L = splice c.toList (xs.length * i.size) news := ⟨_, rfl⟩
  have hLl : L.length = c.size := by rw [hL, splice_len hlen (by simpa using hfit)]; simp
  have hLg : ∀ j, L[j]? = if j < xs.length * i.size then c[j]? else if j < xs.length * i.size + ys.length * i.size then news[j - xs.length * i.size]? else c[j]? := fun j => by
    rw [hL, splice_get hlen (by simpa using hfit)]; simp
  rw [← hL] at hn
  have hheap := setRow_heap V.w (V.ρ id) c L.toArray t (0, 0) hc3
  have hok : ArrOk V i.size (xs ++ ys) L.toArray := by
    obtain ⟨o2, o3, o4⟩ := ok
    obtain ⟨f0, hf0⟩ : ∃ f0 : Nat → Value, f0 = fun j => c.getD j undef := ⟨_, rfl⟩
    have val : ∀ j, j < xs.length * i.size → c[j]? = some (f0 j) := fun j hj => by
      rw [hf0]
      simp [Array.getD_eq_getD_getElem?, show j < c.size by omega]
    refine arr_append (f0 := f0) (f := f) (fun j hj => ?_) (fun j hj => ?_) (by rw [List.size_toArray, hLl, Nat.add_mul]; exact hfit) o3 hf.sz (fun j hj => ?_) hf.one (fun k j hk hj => ?_) hf.rep
    · rw [List.getElem?_toArray, hLg, if_pos hj]; exact val j hj
    · rw [List.getElem?_toArray, hLg, if_neg (by omega), if_pos (by omega), hnews, Nat.add_sub_cancel_left]
      simp [hj]
    · obtain ⟨d1, d2, d3⟩ := divmod hj
      obtain ⟨v, hv, hv1, _⟩ := o4 _ _ d1 d2
      rw [d3] at hv
      have := val j hj
      rw [hv] at this
      cases this; exact hv1
    · have hkj := cell_lt_of hk hj
      obtain ⟨v, hv, _, hr⟩ := o4 k j hk hj
      have := val _ hkj
      rw [hv] at this
      cases this; exact hr
  obtain ⟨V', k1, k2, k3, k4, k5⟩ := step_renew hG hH (w' := V.w.setRow (V.ρ id) L.toArray) (b' := V.ρ id) (xs' := xs ++ ys) (.inl rfl) (by rw [setRow_size]; exact hlt) (by rw [setRow_size]; exact Nat.le_refl _)
    (fun b _ hb => setRow_other _ _ _ _ hb) rfl rfl rfl fun V' hw hs => ⟨t, _, by rw [hw]; exact hheap, (hok.step hs).1, (hok.step hs).2.1, (hok.step hs).2.2⟩
  refine ⟨V', _, by rw [k1]; exact hn, k2, k3, k4, rep_own_mk (c := L.toArray) (t := t) (xs := xs ++ ys) (s := i.size) (by rw [k2, List.getElem?_set_self (List.getElem?_eq_some_iff.1 hH).1]) (fun _ => by rw [k5]) hroom hmx (by rw [k1, k5]; exact hheap) (by rw [List.size_toArray, hLl]; exact hc4)⟩

theorem append_sound {ts tx : TypeId} {a x r : AV} {ua ux : Value} {H' : List AObj} {orc orc' : List Orc} {ps : List Prop} {ty : TypeId} (h : appendA P V.H ts tx a x orc = some (r, H', orc', ps)) (hps : AllP ps) (hG : HeapRep G V)
    (ha : Rep V a ua) (hx : Rep V x ux) : ∃ (V' : View) (v : Value), (Builtin.append_ #[ts, tx] ty #[ua, ux]).run P V.w = .ok v V'.w ∧ V'.H = H' ∧ Step V V' ∧ HeapRep G V' ∧ Rep V' r v := by
  unfold appendA at h
  split at h
  · rename_i e hu
    split at h
    · rename_i i hi
      split at h
      · rename_i z ys hz hsrc
        split at h
        · rename_i hpos
          obtain ⟨hby, hsz, hzs⟩ := hpos
          have src : AllP (srcObl V.H x ys.length) → (∃ f, SrcOk P V ys i.size ux f) ∧ ((∃ e, P.underlying tx = some (.slice e)) ∨ P.underlying tx = some .string) := fun ho => src_sound rfl hsrc ho hG hx
          split at h
          · -- nil
            have hua := rep_lit ha
            subst hua
            split at h
            · cases h
              obtain ⟨rfl, ho⟩ := hps
              obtain ⟨⟨f, hf⟩, hty⟩ := src ho
              have hn := run_append_none (P := P) V.w ts tx ty e i hu hty hi none 0 0 ux hf.len (by simpa using hf.cells V.w rfl) (Nat.le_refl _)
              exact ⟨V, _, hn, rfl, Step.refl V, hG, .pure _ _ (.lit _)⟩
            · cases h
              obtain ⟨hne, hb, ho⟩ := hps
              have hpos : 0 < ys.length := List.length_pos_iff.2 hne
              obtain ⟨⟨f, hf⟩, hty⟩ := src ho
              obtain ⟨cap, c, g1, g2, g3, g4, g5⟩ := append_grow (ty := ty) (xs := []) (f0 := fun _ => undef) hu hi hz hby hzs hf hty none 0 (by simp) (fun w' _ => by simp [Builtin.firstCells]) (fun j hj => absurd hj (by simp)) (fun k j hk => absurd hk (by simp)) (by simp; omega) (by rw [List.length_nil, Nat.zero_add]; exact hb)
              simp only [List.nil_append, List.length_nil, Nat.zero_add] at g1 g4 g5
              obtain ⟨V', k1, k2, k3, k4, k5⟩ := new_arr hG (w' := V.w.drew.alloc (.cells c e)) (t := e) (c := c) (cap := cap) rfl rfl rfl rfl g5.2.1 g1 g2 g3 g5.2.2
              exact ⟨V', _, by rw [k1]; exact g4, k2, k3, k4, k5⟩
          · -- data whose slice has no room
            rename_i sz xs
            obtain ⟨A, cap0, rfl, hc1, hc2, _⟩ := sl_inv (rep_sl ha)
            have hc3 := hc2 rfl
            subst hc3
            split at h
            · rename_i hss
              split at h
              · cases h
                obtain ⟨rfl, ho⟩ := hps
                obtain ⟨⟨f, hf⟩, hty⟩ := src ho
                have hn := run_append_none (P := P) V.w ts tx ty e i hu hty hi A xs.length xs.length ux hf.len (by simpa using hf.cells V.w rfl) (Nat.le_refl _)
                exact ⟨V, _, hn, rfl, Step.refl V, hG, ha⟩
              · cases h
                obtain ⟨hne, hb, ho⟩ := hps
                subst hss
                have hpos : 0 < ys.length := List.length_pos_iff.2 hne
                obtain ⟨⟨f, hf⟩, hty⟩ := src ho
                obtain ⟨f0, hf0⟩ := src_sl (P := P) (rep_sl ha)
                obtain ⟨cap, c, g1, g2, g3, g4, g5⟩ := append_grow (ty := ty) hu hi hz hby hzs hf hty A xs.length hf0.sz hf0.cells hf0.one hf0.rep (by omega) hb
                obtain ⟨V', k1, k2, k3, k4, k5⟩ := new_arr hG (w' := V.w.drew.alloc (.cells c e)) (t := e) (c := c) (cap := cap) rfl rfl rfl rfl g5.2.1 (by rw [List.length_append]; exact g1) g2 g3 g5.2.2
                rw [List.length_append] at k5
                exact ⟨V', _, by rw [k1]; exact g4, k2, k3, k4, k5⟩
            · cases h
          · -- an own array
            rename_i id g len
            split at h
            · rename_i g' sz xs hH
              split at h
              · rename_i hgs
                subst hgs
                cases h
                obtain ⟨eg, rfl, hb, ho⟩ := hps
                subst eg
                obtain ⟨A, cap, c, t, rfl, hA, hc1, hc2, hc3, hc4⟩ := own_cur hH ha
                rw [Nat.zero_add] at hc4
                rw [Nat.zero_mul] at hA
                obtain ⟨t', c', o1, o2⟩ := hG.obj id _ hH
                rw [hc3] at o1
                cases o1
                have hlt := (List.getElem?_eq_some_iff.1 hH).1
                obtain ⟨⟨f, hf⟩, hty⟩ := src ho
                by_cases hys : ys = []
                · subst hys
                  have hn := run_append_none (P := P) V.w ts tx ty e i hu hty hi A xs.length cap ux hf.len (by simpa using hf.cells V.w rfl) hc1
                  have ok : ArrOk V i.size (xs ++ []) c := by rw [List.append_nil]; exact o2
                  obtain ⟨V', k1, k2, k3, k4, k5⟩ := step_renew hG hH (w' := V.w) (b' := V.ρ id) (xs' := xs ++ []) (.inl rfl) (hG.lt id hlt) (Nat.le_refl _) (fun _ _ _ => rfl) rfl rfl rfl fun V' hw hs =>
                    ⟨t, c, by rw [hw]; exact hc3, (ok.step hs).1, (ok.step hs).2.1, (ok.step hs).2.2⟩
                  exact ⟨V', _, by rw [k1]; exact hn, k2, k3, k4, rep_own_mk (c := c) (t := t) (xs := xs ++ []) (s := i.size) (by rw [k2, List.getElem?_set_self hlt]) (fun h => by rw [k5]; exact hA h) hc1 hc2 (by rw [k1, k5]; exact hc3) hc4⟩
                · have hpos : 0 < ys.length := List.length_pos_iff.2 hys
                  by_cases hroom : xs.length + ys.length ≤ cap
                  · have hA' := hA (by omega)
                    subst hA'
                    exact append_in hu hi hf hty hG hH hc3 hc4 hc2 hroom o2
                  · have hown : OwnRep V id i.size 0 xs.length (.slice A xs.length cap) := ⟨A, cap, c, t, rfl, by rw [Nat.zero_mul]; exact hA, hc1, hc2, hc3, by rw [Nat.zero_add]; exact hc4⟩
                    obtain ⟨f0, hf0⟩ := arr_own (P := P) hG hH hown (by omega)
                    simp only [List.drop_zero, List.take_length] at hf0
                    obtain ⟨cap', c2, g1, g2, g3, g4, g5⟩ := append_grow (ty := ty) hu hi hz hby hzs hf hty A cap hf0.sz (fun w' hw' => by
                      have := hf0.cells w' hw'
                      cases A with
                      | none => exact this
                      | some a => exact this) hf0.one hf0.rep (by omega) hb
                    obtain ⟨V', k1, k2, k3, k4, k5⟩ := step_renew hG hH (w' := V.w.drew.alloc (.cells c2 e)) (b' := V.w.heap.size) (xs' := xs ++ ys) (.inr (Nat.le_refl _)) (by simp) (by simp) (fun b hb' _ => push_old hb') rfl rfl rfl fun V' hw hs =>
                      ⟨e, c2, by rw [hw]; exact heap_push rfl, (g5.step hs).1, (g5.step hs).2.1, (g5.step hs).2.2⟩
                    exact ⟨V', _, by rw [k1]; exact g4, k2, k3, k4, rep_own_mk (c := c2) (t := e) (xs := xs ++ ys) (s := i.size) (by rw [k2, List.getElem?_set_self hlt]) (fun _ => by rw [k5]) g1 g2 (by rw [k1, k5]; exact heap_push rfl) g3⟩
              · cases h
            · cases h
          · cases h
        · cases h
      · cases h
    · cases h
  · cases h
end
end Go.Am
