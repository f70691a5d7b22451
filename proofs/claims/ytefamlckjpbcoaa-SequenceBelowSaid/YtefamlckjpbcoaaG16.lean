import Derived.Test.YtefamlckjpbcoaaG15
import Derived.Shelf.Lay
import Derived.KernelRfl
set_option maxRecDepth 100000
set_option linter.unusedSimpArgs false
set_option linter.unusedVariables false
/- SEQUENCE, 15: the cells of a row sorted in place (descending). -/
namespace Go.Sq
open Go Go.Am Go.Proofs Go.Seat Go.Lib Go.Sort

theorem rep_imm (W : World) (sb : Nat) (hst : W.cell? ⟨sb, 0, none⟩ = some (.func (.func 32) #[] #[])) : Rep (view0 W) (.imm [fnV 32]) (.pointer (some ⟨sb, 0, none⟩)) :=
  .pure _ _ (.imm [fnV 32] ⟨sb, 0, none⟩ (fun _ => .func (.func 32) #[] #[]) rfl (fun _ h => h) (fun j hj => by
    have : j = 0 := by have : j < 1 := hj; omega
    subst this
    exact hst) (fun j hj => by
    have : j = 0 := by have : j < 1 := hj; omega
    subst this
    exact .lit _))
theorem clos_calls (x y : CE) (sb : Nat) (W : World) (hst : W.cell? ⟨sb, 0, none⟩ = some (.func (.func 32) #[] #[])) : Calls Try.prog 41 #[.agg (encV x).toArray, .agg (encV y).toArray, .pointer (some ⟨sb, 0, none⟩)] W fun e w' => e = .returned (.int .i64 (cfD x y)) ∧ ∃ q os', w' = Sort.grow (W.drewN q) os' :=
  (grow_calls (clos_c x y) (fun g cs h => by cases h) (.cons (rep_cel _ x) (.cons (rep_cel _ y) (.cons (rep_imm W sb hst) .nil)))).mono fun e w' ⟨v, q, os', he, ⟨V', _, hr⟩, hw⟩ => by
    have : v = .int .i64 (cfD x y) := rep_toVal rfl hr
    subst this
    exact ⟨he, q, os', hw⟩

theorem cmp4_le (a b c d a' b' c' d' : Int) : cmp4 a b c d a' b' c' d' = -1 ∨ cmp4 a b c d a' b' c' d' = 0 ∨ cmp4 a b c d a' b' c' d' = 1 := by
  unfold cmp4 cmpI
  grind
theorem lt_gt (x y : CE) : ltOf cfD x y = gtB x y := by
  unfold ltOf cfD
  have h1 := cmp4_le x.tm x.dv x.sq x.at' y.tm y.dv y.sq y.at'
  have h2 : cmp4 x.tm x.dv x.sq x.at' y.tm y.dv y.sq y.at' = 1 ↔ gtB x y = true := by
    rw [gt_iff]
    unfold cmp4 cmpI
    grind
  rw [Bool.eq_iff_iff, decide_eq_true_iff, ← h2]
  rcases h1 with h | h | h <;> rw [h] <;> decide
theorem swo : SWO (ltOf cfD) where
  irrefl x := by rw [lt_gt]; exact gt_irrefl x
  trans x y z := by simp only [lt_gt]; exact gt_trans
  ntrans x y z := by
    simp only [lt_gt, Bool.eq_false_iff, ne_eq, gt_iff]
    omega

instance : Inhabited CE := ⟨⟨0, 0, 0, 0, 0, 0, 0, ByteArray.empty, false⟩⟩
structure Kid (w : World) (v : Value) (b : Nat) (l : List CE) (cap : Nat) (c : Array Value) (t : TypeId) : Prop where
  val : v = .slice (some ⟨b, 0, none⟩) l.length cap
  blk : w.heap[b]? = some (.cells c t (0, 0))
  le : l.length ≤ cap
  max : cap ≤ maxLen
  size : cap * 9 = c.size
  cell : ∀ k x j, l[k]? = some x → j < 9 → c[k * 9 + j]? = some ((encV x).getD j undef)
theorem encV_len (x : CE) : (encV x).length = 9 := rfl
theorem encV_one (x : CE) : ∀ v ∈ encV x, v.oneCell' = true := by
  intro v hv
  simp only [encV, List.mem_cons, List.not_mem_nil, or_false] at hv
  rcases hv with h | h | h | h | h | h | h | h | h <;> subst h <;> rfl
theorem Kid.holds {w : World} {v : Value} {b cap : Nat} {l : List CE} {c : Array Value} {t : TypeId} (h : Kid w v b l cap c t) : HoldsK encV 9 w b 0 l.toArray := by
  intro j hj
  rw [size_flatK] at hj
  have hj9 : j % 9 < 9 := Nat.mod_lt _ (by decide)
  have hk : j / 9 < l.length := by
    have : j < l.length * 9 := by simpa using hj
    omega
  have e : j / 9 * 9 + j % 9 = j := by omega
  have hc := h.cell (j / 9) l[j / 9] (j % 9) (List.getElem?_eq_getElem hk) hj9
  rw [e] at hc
  have e2 : (flatK encV 9 l.toArray)[j]! = (encV l[j / 9]).getD (j % 9) undef := by
    rw [get_flatK _ _ _ _ hj]
    have : l.toArray[j / 9]! = l[j / 9] := by simp [hk]
    rw [this]
    have hh : j % 9 < (encV l[j / 9]).length := by rw [encV_len]; exact hj9
    rw [getElem!_pos (encV _) _ hh, List.getD_eq_getElem?_getD, List.getElem?_eq_getElem hh]
    rfl
  constructor
  · show w.cell? ⟨b, 0 + j, none⟩ = some (id _)
    rw [id, e2, Nat.zero_add]
    simp [World.cell?, h.blk, hc]
  · show w.frozen? ⟨b, 0 + j, none⟩ = false
    simp [World.frozen?, h.blk]
structure SameBut (w : World) (b : Nat) (w' : World) : Prop where
  os : w'.os = w.os
  tape : w'.tape = w.tape
  output : w'.output = w.output
  size : w.heap.size ≤ w'.heap.size
  drawn : w.drawn ≤ w'.drawn
  keep : ∀ i, i < w.heap.size → i ≠ b → w'.heap[i]? = w.heap[i]?

theorem putCells_size (enc : Value → Value) (off : Nat) (d c : Array Value) : (putCells enc off d c).size = c.size := by simp [putCells]
theorem sortWorld_same (w : World) (b n : Nat) (dk : Array CE) (os : Array Obj) : SameBut w b (sortWorldK encV 9 w b 0 n dk os) := by
  refine ⟨rfl, rfl, rfl, ?_, by show w.drawn ≤ w.drawn + n; omega, fun i hi hne => ?_⟩
  · unfold sortWorldK
    rw [size_grow, size_putRowK]
    show w.heap.size ≤ w.heap.size + _
    omega
  · unfold sortWorldK
    rw [heap_grow_old _ _ (by rw [size_putRowK]; exact hi)]
    show (w.heap.modify b _)[i]? = _
    rw [Array.getElem?_modify]
    simp [Ne.symm hne]
theorem sortWorld_kid {w : World} {v : Value} {b cap : Nat} {l l' : List CE} {c : Array Value} {t : TypeId} (h : Kid w v b l cap c t) (n : Nat) (os : Array Obj) (hl : l'.length = l.length) : ∃ c', Kid (sortWorldK encV 9 w b 0 n l'.toArray os) v b l' cap c' t := by
  have hb : b < w.heap.size := (Array.getElem?_eq_some_iff.1 h.blk).1
  refine ⟨putCells id 0 (flatK encV 9 l'.toArray) c, by rw [hl]; exact h.val, ?_, by rw [hl]; exact h.le, h.max, by rw [putCells_size]; exact h.size, fun k x j hk hj => ?_⟩
  · unfold sortWorldK
    rw [heap_grow_old _ _ (by rw [size_putRowK]; exact hb)]
    show (w.heap.modify b (onCells (putCells id 0 (flatK encV 9 l'.toArray))))[b]? = _
    rw [Array.getElem?_modify, if_pos rfl, h.blk]
    rfl
  · have hkl : k < l'.length := (List.getElem?_eq_some_iff.1 hk).1
    have hx : l'[k] = x := (List.getElem?_eq_some_iff.1 hk).2
    have hlt : k * 9 + j < l'.toArray.size * 9 := by
      have : l'.toArray.size = l'.length := by simp
      omega
    have hcs : k * 9 + j < c.size := by
      have := h.le
      have := h.size
      omega
    rw [putCells, Array.getElem?_mapIdx, Array.getElem?_eq_getElem hcs]
    simp only [Option.map_some, Nat.zero_le, true_and, Nat.zero_add, size_flatK, Nat.sub_zero, id]
    rw [if_pos hlt, get_flatK _ _ _ _ hlt, show (k * 9 + j) / 9 = k by omega, show (k * 9 + j) % 9 = j by omega]
    have : l'.toArray[k]! = x := by simp [hkl, hx]
    rw [this]
    have hh : j < (encV x).length := by rw [encV_len]; exact hj
    rw [getElem!_pos (encV _) _ hh, List.getD_eq_getElem?_getD, List.getElem?_eq_getElem hh]
    rfl
theorem sort_calls (w : World) (v : Value) (b sb cap : Nat) (l : List CE) (c : Array Value) (t : TypeId) (h : Kid w v b l cap c t) (hlen : l.length ≤ 1000000) (hst : w.cell? ⟨sb, 0, none⟩ = some (.func (.func 32) #[] #[])) (hne : sb ≠ b) :
    Calls Try.prog 40 #[v, .func (.func 41) #[] #[.pointer (some ⟨sb, 0, none⟩)]] w fun e w' => e = .returned (.tuple #[]) ∧ SameBut w b w' ∧ ∃ l' c', l'.Perm l ∧ l'.Pairwise (fun x y => gtB y x = false) ∧ Kid w' v b l' cap c' t := by
  have hb : b < w.heap.size := (Array.getElem?_eq_some_iff.1 h.blk).1
  have hsb : sb < w.heap.size := World.block_lt_of_cell? w _ hst
  have eg : ∀ args w, (callFunc 41 args).run Try.prog w = .ok (.enter 41 args) w := enters_of Try.func41 (by kernel_rfl) rfl
  have hcmp : CmpLays Try.prog 41 #[.pointer (some ⟨sb, 0, none⟩)] encV 9 cfD b 0 l.toArray.size w := fun m os dk _ x y =>
    clos_calls x y sb _ (by
      unfold sortWorldK
      rw [cell?_grow _ _ _ (by rw [size_putRowK]; exact hsb), cell?_putRowK_other _ _ _ _ _ _ _ hne]
      exact hst)
  have hcon := AnyQ.slices_SortFunc Try.sortCe 9 Try.isAgg33 Try.sizeOf33 encV encV_len encV_one cfD swo 41 #[.pointer (some ⟨sb, 0, none⟩)] b 0 cap l.toArray w eg hcmp h.holds hb (by simp; omega)
  rw [h.val]
  have e1 : l.toArray.size = l.length := by simp
  rw [e1] at hcon
  refine hcon.mono ?_
  rintro e w' ⟨rfl, d', n, os, ⟨p1, _, p3⟩, hs, rfl⟩
  have hd : d'.size = l.length := by rw [p1, e1]
  have e2 : d'.toList.toArray = d' := by simp
  rw [Array.extract_eq_self_of_le (by omega), Array.extract_eq_self_of_le (by omega)] at p3
  refine ⟨rfl, ?_, d'.toList, ?_⟩
  · exact sortWorld_same w b n d' os
  · have := sortWorld_kid h n os (l' := d'.toList) (by simpa using hd)
    rw [e2] at this
    obtain ⟨c', hk⟩ := this
    refine ⟨c', by simpa using p3, ?_, by rw [← h.val]; exact hk⟩
    rw [List.pairwise_iff_getElem]
    intro i j hi hj hij
    have h1 : i < d'.size := by simpa using hi
    have h2 : j < d'.size := by simpa using hj
    have := hs i j (Nat.zero_le _) hij (by omega)
    rw [lt_gt] at this
    have g1 : d'[i]! = d'[i] := by simp [h1]
    have g2 : d'[j]! = d'[j] := by simp [h2]
    rw [g1, g2] at this
    simpa using this
end Go.Sq

/- SEQUENCE, 16: nothing sorted. -/
namespace Go.Sq
open Go Go.Am Go.Proofs Go.Seat

theorem l64_0  (h : True) : CallC P G 59 [AV.lit (Value.int IntKind.u64 0)] [] (AOut.ret (int 0)) [] := by
  have _ := h
  exact callC_of [kf (Eq.refl false), kf (Eq.refl false), kf (Eq.refl false)] (by kernel_rfl)

theorem len_0  (h : True) : CallC P G 47 [AV.lit (Value.int IntKind.u64 0)] [] (AOut.ret (int 0)) [] := by
  have _ := h
  exact callC_of [kf (Eq.refl false), kc [] (@Go.Sq.l64_0 (trivial))] (by kernel_rfl)

theorem ins_l  (h : True) : RunL P G none 1 (loopAt P 50 0) (St.mk (slots 53 [(0, nilS), (1, int 0), (2, int 0), (3, AV.fn (Fn.func 41) [] [AV.ptr 0 0]), (8, int 1)]) [AObj.box [fnV 32]] []) (AEx.exit 0) (St.mk (slots 53 [(0, nilS)]) [AObj.box [fnV 32]] []) := by
  have _ := h
  exact loop_exit [kf (Eq.refl false)] (others 53 [0]) 1 (by kernel_rfl)

theorem ins_n  (h : True) : CallC P G 50 [nilS, int 0, int 0, AV.fn (Fn.func 41) [] [AV.ptr 0 0]] [AObj.box [fnV 32]] (AOut.ret (AV.tup [])) [AObj.box [fnV 32]] := by
  have _ := h
  exact callC_of [kl [4, 5, 6, 7, 9, 10, 11, 12, 13, 14, 15, 16, 17, 18, 19, 20, 21, 22, 23, 24, 25, 26, 27, 28, 29, 30, 31, 32, 33, 34, 35, 36, 37, 38, 39, 40, 41, 42, 43, 44, 45, 46, 47, 48, 49, 50, 51, 52] 1 (@Go.Sq.ins_l (trivial))] (by kernel_rfl)

theorem pdq_l  (h : True) : RunL P G none 1 (loopAt P 46 0) (St.mk (slots 148 [(0, nilS), (1, int 0), (2, int 0), (3, int 0), (4, AV.fn (Fn.func 41) [] [AV.ptr 0 0]), (10, Am.bool true), (11, Am.bool true)]) [AObj.box [fnV 32]] []) AEx.ret (St.mk (slots 148 [(0, nilS)]) [AObj.box [fnV 32]] []) := by
  have _ := h
  exact loop_exit [kt (Eq.refl true), kc [0] (@Go.Sq.ins_n (trivial))] (others 148 [0]) 1 (by kernel_rfl)

theorem pdq_n  (h : True) : CallC P G 46 [nilS, int 0, int 0, int 0, AV.fn (Fn.func 41) [] [AV.ptr 0 0]] [AObj.box [fnV 32]] (AOut.ret (AV.tup [])) [AObj.box [fnV 32]] := by
  have _ := h
  exact callC_of [kl [5, 6, 7, 8, 9, 12, 13, 14, 15, 16, 17, 18, 19, 20, 21, 22, 23, 24, 25, 26, 27, 28, 29, 30, 31, 32, 33, 34, 35, 36, 37, 38, 39, 40, 41, 42, 43, 44, 45, 46, 47, 48, 49, 50, 51, 52, 53, 54, 55, 56, 57, 58, 59, 60, 61, 62, 63, 64, 65, 66, 67, 68, 69, 70, 71, 72, 73, 74, 75, 76, 77, 78, 79, 80, 81, 82, 83, 84, 85, 86, 87, 88, 89, 90, 91, 92, 93, 94, 95, 96, 97, 98, 99, 100, 101, 102, 103, 104, 105, 106, 107, 108, 109, 110, 111, 112, 113, 114, 115, 116, 117, 118, 119, 120, 121, 122, 123, 124, 125, 126, 127, 128, 129, 130, 131, 132, 133, 134, 135, 136, 137, 138, 139, 140, 141, 142, 143, 144, 145, 146, 147] 1 (@Go.Sq.pdq_l (trivial))] (by kernel_rfl)

theorem srt_n  (h : True) : CallC P G 40 [nilS, AV.fn (Fn.func 41) [] [AV.ptr 0 0]] [AObj.box [fnV 32]] (AOut.ret (AV.tup [])) [AObj.box [fnV 32]] := by
  have _ := h
  exact callC_of [kc [] (@Go.Sq.len_0 (trivial)), kc [0] (@Go.Sq.pdq_n (trivial))] (by kernel_rfl)

theorem desc_n  (h : True) : CallC P G 31 [nilS, fnV 32] [] (AOut.ret (AV.tup [])) [] := by
  have _ := h
  exact callC_of [kc [0] (@Go.Sq.srt_n (trivial))] (by kernel_rfl)

end Go.Sq
