import Derived.Test.YtflocgjejaoeiaaDoorG14
import Derived.Shelf.Spec.SlicesInsertGrow
import Derived.KernelRfl
/- BINDS, 13: slices.Insert of one bind, shown at the world. -/
namespace Go.Bd
set_option maxRecDepth 100000
set_option linter.unusedSimpArgs false
set_option linter.unusedVariables false
open Go Go.Am Go.Proofs Go.Seat Go.Lib

theorem run_overlaps_own {P : Program} (w : World) (tS tR e : TypeId) (ht : P.underlying tS = some (.slice e)) (size : Nat) (hz : ∀ w, (Go.sizeOf e).run P w = .ok size w)
    (a b : Addr) (la ca lb cb : Nat) (hne : a.block ≠ b.block) (tA tB : TypeId) (kA kB : Nat)
    (hsa : w.shape? a.block = some (tA, kA)) (hsb : w.shape? b.block = some (tB, kB)) (hkA : kA ≠ 0) (hkB : kB ≠ 0) (hf : ∀ o, w.frozen? ⟨b.block, o, none⟩ = false) (hb : b.spot = none) :
    (Extern.SlicesOverlaps.overlaps #[tS, tS] #[tR] #[.slice (some a) la ca, .slice (some b) lb cb]).run P w = .ok (.bool false) w := by
  have hnb : (a.block != b.block) = true := by simpa using hne
  have hnb' : (a.block == b.block) = false := by simpa using hne
  have hfb : w.frozen? b = false := by
    obtain ⟨x, y, z⟩ := b
    simp only at hb; subst hb
    exact hf y
  have hfk : w.frozen? { block := b.block, off := kB } = false := hf kB
  change Sem.run P (α := Value) (do
    let some t := (#[tS, tS] : Array TypeId)[0]? | stuck "slices.overlaps: no parameter types"
    let .slice elem ← underlying t | stuck "slices.overlaps: slice type expected"
    let size ← sizeOf elem
    match (some a : Option Addr), (some b : Option Addr) with
    | some a, some b =>
      if la = 0 ∨ lb = 0 ∨ size = 0 then pure (Value.bool false)
      else if a.block != b.block && (← frozen a) && (← frozen b) then unsupported .addressObserved
      else do
        if a.block != b.block then do
          noView a; noView b
          if ← mayBeOne a b then return Value.bool ((← choose (.extern "sameAddr.stringBytes" 2)) == 1)
        pure (Value.bool (a.block == b.block && a.off < b.off + lb * size && b.off < a.off + la * size))
    | _, _ => pure (Value.bool false)) w = _
  by_cases h0 : la = 0 ∨ lb = 0 ∨ size = 0
  · simp [run_underlying ht, hz, h0]
  · cases kB with
    | zero => exact absurd rfl hkB
    | succ kB =>
      obtain ⟨kA, rfl⟩ : ∃ k, kA = k + 1 := ⟨kA - 1, by omega⟩
      cases hfa : w.frozen? a <;> cases hfe : w.frozen? { block := a.block, off := kA + 1 } <;>
      simp [run_underlying ht, hz, h0, hnb, hnb', frozen, noView, viewAt, mayBeOne, stringish, shape, Sem.run, hsa, hsb, hfb, hfk, hfa, hfe]
/-- copy, elements of any size. -/
theorem run_copy_wide {P : Program} (w : World) (dT sT ty elem : TypeId) (sz : Nat) (b o dLen dCap : Nat) (a : Addr) (sLen sCap : Nat) (cs : List Value) (n : Nat)
    (hu : P.underlying dT = some (.slice elem)) (hs : (P.info? elem).map (·.size) = some sz) (hm : n = Nat.min sLen dLen) (hn : cs.length = n * sz)
    (hsrc : ∀ j v, cs[j]? = some v → w.cell? (a.add j) = some v) (hc : ∀ j, j < cs.length → (w.cell? ⟨b, o + j, none⟩).isSome = true) (hf : ∀ j, j < cs.length → w.frozen? ⟨b, o + j, none⟩ = false) (h1 : ∀ v ∈ cs, v.oneCell' = true) :
    (Builtin.copy_ #[dT, sT] ty #[.slice (some ⟨b, o, none⟩) dLen dCap, .slice (some a) sLen sCap]).run P w = .ok (goInt n) (w.setCells b o cs) := by
  have hl := run_loadCells_list (P := P) w a cs hsrc
  have hst := run_storeCells_cells (P := P) b o cs 0 w (by simpa using hc) (by simpa using hf) h1
  cases hq : P.info? elem with
  | none => simp [hq] at hs
  | some i =>
    have hi : i.size = sz := by simpa [hq] using hs
    simp [Builtin.copy_, run_underlying hu, Builtin.lenOf, Builtin.firstCells, sizeOf, typeInfo, hq, hi, ← hm, ← hn, hl, hst]

set_option maxHeartbeats 4000000 in
theorem ins_shift (b n c i vb vo vc : Nat) (cs vs : List Value) (w : World) (hi : i < n) (hroom : n + 1 ≤ c) (hc63 : c ≤ 9223372036854775807) (hvb : vb ≠ b) (hcl : cs.length = n * 5) (hvl : vs.length = 5)
    (hcs : ∀ j v, cs[j]? = some v → w.cell? ⟨b, j, none⟩ = some v) (hsp : ∀ j, j < (n + 1) * 5 → (w.cell? ⟨b, j, none⟩).isSome = true) (hfz : ∀ j, w.frozen? ⟨b, j, none⟩ = false)
    (hvs : ∀ j v, vs[j]? = some v → w.cell? ⟨vb, vo + j, none⟩ = some v) (h1c : ∀ v ∈ cs, v.oneCell' = true) (h1v : ∀ v ∈ vs, v.oneCell' = true)
    (tA tB : TypeId) (kA kB : Nat) (hsa : w.shape? vb = some (tA, kA)) (hsb : w.shape? b = some (tB, kB)) (hkA : kA ≠ 0) (hkB : kB ≠ 0) :
    Calls Tryd.prog 31 #[.slice (some ⟨b, 0, none⟩) n c, .int .i64 i, .slice (some ⟨vb, vo, none⟩) 1 vc] w fun e w' =>
      e = .returned (.slice (some ⟨b, 0, none⟩) (n + 1) c) ∧ w' = (w.drew.setCells b ((i + 1) * 5) (cs.drop (i * 5))).setCells b (i * 5) vs := by
  have hz2 : ¬ ((i : Int) = (n : Int)) := by omega
  have hsz : (Tryd.prog.info? 26).map (·.size) = some 5 := by kernel_rfl
  have hov : ∀ lb cb o, (callFunc 47 #[.slice (some ⟨vb, vo, none⟩) 1 vc, .slice (some ⟨b, o, none⟩) lb cb]).run Tryd.prog w = .ok (.value (.bool false)) w := fun lb cb o => by
    rw [run_callFunc_extern Tryd.func47 (by kernel_rfl) (by kernel_rfl) (by kernel_rfl) (e := Extern.SlicesOverlaps.overlaps #[22, 22] #[4]) (by kernel_rfl),
      run_overlaps_own w 22 4 26 Tryd.underlying22 5 Tryd.sizeOf26 ⟨vb, vo, none⟩ ⟨b, o, none⟩ 1 vc lb cb hvb tA tB kA kB hsa hsb hkA hkB hfz rfl]
    rfl
  have mixed : Tryd.prog.follows .mixedOrders = true := by kernel_rfl
  have hw1 : IntKind.i64.wrap ((i : Int) + 1) = (i : Int) + 1 := by rw [IntKind.wrap_i64]; omega
  have hw2 : IntKind.i64.wrap ((n : Int) + 1) = (n : Int) + 1 := by rw [IntKind.wrap_i64]; omega
  have hdl : (cs.drop (i * 5)).length = (n - i) * 5 := by rw [List.length_drop, hcl, Nat.sub_mul]
  have hb1 : (0 : Int) ≤ (i : Int) + 1 := by omega
  have hin : i ≤ n := by omega
  have htn : ((i : Int) + 1).toNat = i + 1 := by omega
  have hb2 : ¬ (c = i + 1) := by omega
  have hb3 : (i : Int) ≤ (n : Int) + 1 := by omega
  have hb4 : ¬ (c = i) := by omega
  have hcp1 : ∀ ty dc sc, (Builtin.copy_ #[22, 22] ty #[.slice (some ⟨b, (i + 1) * 5, none⟩) (n - i) dc, .slice (some ⟨b, i * 5, none⟩) (n + 1 - i) sc]).run Tryd.prog w.drew = .ok (goInt ((n - i : Nat) : Int)) (w.drew.setCells b ((i + 1) * 5) (cs.drop (i * 5))) := fun ty dc sc =>
    run_copy_wide w.drew _ _ ty 26 5 b ((i + 1) * 5) (n - i) dc ⟨b, i * 5, none⟩ (n + 1 - i) sc (cs.drop (i * 5)) (n - i) Tryd.underlying22 hsz (by simp only [Nat.min_def]; split <;> omega) hdl
      (fun j v hj => by rw [Addr.add_lit]; exact hcs (i * 5 + j) v (by rwa [List.getElem?_drop] at hj))
      (fun j hj => by rw [hdl] at hj; exact hsp _ (by omega)) (fun j hj => hfz _) (fun v hv => h1c v (List.mem_of_mem_drop hv))
  obtain ⟨W1, hW1⟩ : ∃ W1, W1 = w.drew.setCells b ((i + 1) * 5) (cs.drop (i * 5)) := ⟨_, rfl⟩
  have hsp1 : ∀ k, k < (n + 1) * 5 → (W1.cell? ⟨b, k, none⟩).isSome = true := fun k hk => by
    rw [hW1]
    exact isSome_setCells b _ _ _ (fun j hj => by rw [hdl] at hj; exact hsp _ (by omega)) _ (hsp k hk)
  have hcp2 : ∀ (W : World), (∀ x, W.cell? x = W1.cell? x) → (∀ x, W.frozen? x = W1.frozen? x) → ∀ ty dc, (Builtin.copy_ #[22, 22] ty #[.slice (some ⟨b, i * 5, none⟩) (n + 1 - i) dc, .slice (some ⟨vb, vo, none⟩) 1 vc]).run Tryd.prog W = .ok (goInt 1) (W.setCells b (i * 5) vs) := fun W hWc hWf ty dc =>
    run_copy_wide W _ _ ty 26 5 b (i * 5) (n + 1 - i) dc ⟨vb, vo, none⟩ 1 vc vs 1 Tryd.underlying22 hsz (by simp only [Nat.min_def]; split <;> omega) (by omega)
      (fun j v hj => by
        rw [Addr.add_lit, hWc, hW1, World.cell?_setCells_out b _ _ _ _ (fun h _ => absurd h hvb)]
        exact hvs j v hj)
      (fun j hj => by rw [hWc]; exact hsp1 _ (by omega)) (fun j hj => by rw [hWf, hW1, World.frozen?_setCells]; exact hfz _) h1v
  rw [← hW1] at hcp1
  go_enter Tryd.func31, Tryd.ntmps31
  go_wp2_with (simp only [hov])
  go_region_law_o (refine step_copy_runI rfl _ _ 22 22 rfl _ _ (by simp [Act.eval, Act.put]) (by simp [Act.eval, Act.put]) (hcp1 _ _ _) ?_)
  go_wp2_with (at_builtin; refine wpList_copy_runI _ rfl _ _ 22 22 rfl _ _ rfl rfl (hcp2 _ (fun _ => rfl) (fun _ => rfl) _ _) ?_)
  go_ret
  first | exact ⟨rfl, rfl⟩ | exact ⟨rfl, by rw [hW1]⟩
/-- The zero bind. -/
abbrev zB : Value := .agg #[.string ⟨#[]⟩, .int .i64 0, .int .i64 0, .int .i64 0, .string ⟨#[]⟩]
def rowI (cs : List Value) (n i G : Nat) : Array Value := (cs.take (i * 5)).toArray ++ Builtin.zeroCells zB.cells (n + 1 - i) ++ Builtin.zeroCells zB.cells (G - (n + 1))
theorem rowI_size (cs : List Value) (n i G : Nat) (hcl : cs.length = n * 5) (hi : i < n) (hG : n + 1 ≤ G) : (rowI cs n i G).size = G * 5 := by
  have : zB.cells.size = 5 := rfl
  simp [rowI, Builtin.zeroCells, this, hcl]
  omega
set_option maxHeartbeats 4000000 in
theorem ins_grow (b n c i vb vo vc : Nat) (cs vs : List Value) (w : World) (hi : i < n) (hnc : n ≤ c) (hroom : c < n + 1) (hbig : (n + 1) * 56 ≤ 140737488355328) (hcl : cs.length = n * 5) (hvl : vs.length = 5)
    (hcs : ∀ j v, cs[j]? = some v → w.cell? ⟨b, j, none⟩ = some v)
    (hvs : ∀ j v, vs[j]? = some v → w.cell? ⟨vb, vo + j, none⟩ = some v) (h1c : ∀ v ∈ cs, v.oneCell' = true) (h1v : ∀ v ∈ vs, v.oneCell' = true) :
    Calls Tryd.prog 31 #[.slice (some ⟨b, 0, none⟩) n c, .int .i64 i, .slice (some ⟨vb, vo, none⟩) 1 vc] w fun e w' =>
      e = .returned (.slice (some ⟨w.heap.size, 0, none⟩) (n + 1) (grownCap w (n + 1) c 26)) ∧
      w' = (((w.alloc (.cells (rowI cs n i (grownCap w (n + 1) c 26)) 26)).drew.setCells w.heap.size (i * 5) vs).drew).setCells w.heap.size ((i + 1) * 5) (cs.drop (i * 5)) := by
  have hz2 : ¬ ((i : Int) = (n : Int)) := by omega
  have hz3 : (c : Int) < (n : Int) + 1 := by omega
  have hsz : (Tryd.prog.info? 26).map (·.size) = some 5 := by kernel_rfl
  have hsb : (Tryd.prog.info? 26).map (fun i => (i.size, i.bytes, i.zero)) = some (5, 56, some zB) := by kernel_rfl
  obtain ⟨i0, hi0, hzs, hzb, hz0⟩ : ∃ i0, Tryd.prog.info? 26 = some i0 ∧ i0.size = 5 ∧ i0.bytes = 56 ∧ i0.zero = some zB := by
    cases hq : Tryd.prog.info? 26 with
    | none => rw [hq] at hsb; cases hsb
    | some i0 =>
      rw [hq] at hsb
      simp only [Option.map_some, Option.some.injEq, Prod.mk.injEq] at hsb
      exact ⟨i0, rfl, hsb.1, hsb.2.1, hsb.2.2⟩
  have mixed : Tryd.prog.follows .mixedOrders = true := by kernel_rfl
  have hbw : b < w.heap.size := block_lt_of_cell (hcs 0 _ (List.getElem?_eq_getElem (by omega)))
  have hvw : vb < w.heap.size := block_lt_of_cell (hvs 0 _ (List.getElem?_eq_getElem (by omega)))
  have hkk : (n : Int) + 1 - (i : Int) = ((n + 1 - i : Nat) : Int) := by omega
  have hik : i + (n + 1 - i) = n + 1 := by omega
  have hold : (Builtin.firstCells i0.size i (.slice (some ⟨b, 0, none⟩) i c)).run Tryd.prog w.drew = .ok (cs.take (i * 5)).toArray w.drew := by
    rw [hzs]
    exact run_firstCells_some w.drew 5 i ⟨b, 0, none⟩ i c (cs.take (i * 5)) (by rw [List.length_take]; omega) (fun j v hj => by
      rw [Addr.add_lit, Nat.zero_add]
      rw [List.getElem?_take] at hj
      split at hj
      · exact hcs j v hj
      · cases hj)
  have hrz : ∀ ty, (Builtin.append_ #[22, 3] ty #[.slice (some ⟨b, 0, none⟩) i c, .int .i64 ((n : Int) + 1 - (i : Int))]).run Tryd.prog w =
      .ok (.slice (some ⟨w.heap.size, 0, none⟩) (n + 1) (grownCap w (n + 1) c 26)) (w.drew.alloc (.cells (rowI cs n i (grownCap w (n + 1) c 26)) 26)) := fun ty => by
    have h := Lib.run_append_grow_zeros w 22 3 ty 26 i0 zB .i64 .i64 Tryd.underlying22 Tryd.underlying3 hi0 hz0 (some ⟨b, 0, none⟩) i c (cs.take (i * 5)) hold (n + 1 - i) (by omega) (by omega) (by omega) (by omega) (by rw [hzb]; omega) (by rw [hzb, hik]; exact growslice_fits hroom hbig)
    rw [hik] at h
    rw [hkk]
    exact h
  obtain ⟨G, hG⟩ : ∃ G, G = grownCap w (n + 1) c 26 := ⟨_, rfl⟩
  have hGn : n + 1 ≤ G := by rw [hG]; exact grownCap_ge w _ _ _
  have hG63 : G ≤ 9223372036854775807 := by
    have := grownCap_le_maxLen w (n + 1) c 26 (by unfold maxLen; omega)
    rw [← hG] at this
    unfold maxLen at this
    omega
  obtain ⟨ROW, hROW⟩ : ∃ ROW : Array Value, ROW = rowI cs n i G := ⟨_, rfl⟩
  rw [← hG] at hrz ⊢
  rw [← hROW] at hrz ⊢
  have hRl : ROW.size = G * 5 := by rw [hROW]; exact rowI_size cs n i G hcl hi hGn
  obtain ⟨W1, hW1⟩ : ∃ W1, W1 = w.drew.alloc (.cells ROW 26) := ⟨_, rfl⟩
  rw [← hW1] at hrz
  have hN : ∀ j, j < (n + 1) * 5 → (W1.cell? ⟨w.heap.size, j, none⟩).isSome = true := fun j hj => by
    rw [hW1, World.cell?_alloc_at (w := w.drew) ROW _ w.heap.size j rfl, Array.getElem?_eq_getElem (by omega)]; rfl
  have hNf : ∀ j, W1.frozen? ⟨w.heap.size, j, none⟩ = false := fun j => by rw [hW1]; exact World.frozen?_alloc_at (w := w.drew) ROW _ w.heap.size j rfl
  have hOb : ∀ j v, w.cell? ⟨b, j, none⟩ = some v → W1.cell? ⟨b, j, none⟩ = some v := fun j v h => by rw [hW1, World.cell?_alloc_past (w := w.drew) _ b j hbw]; exact h
  have hOv : ∀ j v, w.cell? ⟨vb, j, none⟩ = some v → W1.cell? ⟨vb, j, none⟩ = some v := fun j v h => by rw [hW1, World.cell?_alloc_past (w := w.drew) _ vb j hvw]; exact h
  have hcpA : ∀ (W : World), (∀ x, W.cell? x = W1.cell? x) → (∀ x, W.frozen? x = W1.frozen? x) → ∀ ty dc, (Builtin.copy_ #[22, 22] ty #[.slice (some ⟨w.heap.size, i * 5, none⟩) (n + 1 - i) dc, .slice (some ⟨vb, vo, none⟩) 1 vc]).run Tryd.prog W = .ok (goInt 1) (W.setCells w.heap.size (i * 5) vs) := fun W hWc hWf ty dc =>
    run_copy_wide W _ _ ty 26 5 w.heap.size (i * 5) (n + 1 - i) dc ⟨vb, vo, none⟩ 1 vc vs 1 Tryd.underlying22 hsz (by simp only [Nat.min_def]; split <;> omega) (by omega)
      (fun j v hj => by rw [Addr.add_lit, hWc]; exact hOv _ v (hvs j v hj))
      (fun j hj => by rw [hWc]; exact hN _ (by omega)) (fun j hj => by rw [hWf]; exact hNf _) h1v
  have hGi : ¬ (G = i) := by omega
  have hGim : ¬ (G = i + 1) := by omega
  have hci : ¬ (c = i) := by omega
  have hbN : b ≠ w.heap.size := by omega
  have hdl : (cs.drop (i * 5)).length = (n - i) * 5 := by rw [List.length_drop, hcl, Nat.sub_mul]
  have hcpB : ∀ (W : World), (∀ x, W.cell? x = (W1.setCells w.heap.size (i * 5) vs).cell? x) → (∀ x, W.frozen? x = (W1.setCells w.heap.size (i * 5) vs).frozen? x) → ∀ ty dc sc, (Builtin.copy_ #[22, 22] ty #[.slice (some ⟨w.heap.size, (i + 1) * 5, none⟩) (n - i) dc, .slice (some ⟨b, i * 5, none⟩) (n - i) sc]).run Tryd.prog W = .ok (goInt ((n - i : Nat) : Int)) (W.setCells w.heap.size ((i + 1) * 5) (cs.drop (i * 5))) := fun W hWc hWf ty dc sc =>
    run_copy_wide W _ _ ty 26 5 w.heap.size ((i + 1) * 5) (n - i) dc ⟨b, i * 5, none⟩ (n - i) sc (cs.drop (i * 5)) (n - i) Tryd.underlying22 hsz (by simp only [Nat.min_def]; split <;> omega) hdl
      (fun j v hj => by
        rw [Addr.add_lit, hWc, World.cell?_setCells_out _ _ _ _ _ (fun h _ => absurd h hbN)]
        exact hOb _ v (hcs (i * 5 + j) v (by rwa [List.getElem?_drop] at hj)))
      (fun j hj => by rw [hdl] at hj; rw [hWc]; exact isSome_setCells _ _ _ _ (fun t ht => hN _ (by omega)) _ (hN _ (by omega)))
      (fun j hj => by rw [hWf, World.frozen?_setCells]; exact hNf _) (fun v hv => h1c v (List.mem_of_mem_drop hv))
  subst hW1
  have hE1 : ∀ x, ((w.alloc (.cells ROW 26)).drew).cell? x = (w.drew.alloc (.cells ROW 26)).cell? x := fun x => rfl
  have hE2 : ∀ x, ((w.alloc (.cells ROW 26)).drew).frozen? x = (w.drew.alloc (.cells ROW 26)).frozen? x := fun x => rfl
  have hF1 : ∀ x, (((w.alloc (.cells ROW 26)).drew.setCells w.heap.size (i * 5) vs).drew).cell? x = ((w.drew.alloc (.cells ROW 26)).setCells w.heap.size (i * 5) vs).cell? x := fun x => rfl
  have hF2 : ∀ x, (((w.alloc (.cells ROW 26)).drew.setCells w.heap.size (i * 5) vs).drew).frozen? x = ((w.drew.alloc (.cells ROW 26)).setCells w.heap.size (i * 5) vs).frozen? x := fun x => rfl
  have hw1 : IntKind.i64.wrap ((i : Int) + 1) = (i : Int) + 1 := by rw [IntKind.wrap_i64]; omega
  have hb1 : (0 : Int) ≤ (i : Int) + 1 := by omega
  have hin : i ≤ n := by omega
  have htn : ((i : Int) + 1).toNat = i + 1 := by omega
  have hb3 : (i : Int) ≤ (n : Int) := by omega
  clear hkk hik hold hROW hG hRl
  go_enter Tryd.func31, Tryd.ntmps31
  go_wp2_with (first
    | (at_builtin; refine Lib.wpList_append_run _ rfl _ _ _ _ rfl _ _ rfl rfl _ _ (hrz _) ?_)
    | (at_builtin; refine wpList_copy_runI _ rfl _ _ 22 22 rfl _ _ rfl rfl (hcpA _ hE1 hE2 _ _) ?_)
    | (at_builtin; refine wpList_copy_runI _ rfl _ _ 22 22 rfl _ _ rfl rfl (hcpB _ (fun _ => rfl) (fun _ => rfl) _ _ _) ?_))
  go_region_law_o (refine step_copy_runI rfl _ _ 22 22 rfl (.slice (some ⟨w.heap.size, (i + 1) * 5, none⟩) (n - i) (G - (i + 1))) (.slice (some ⟨b, i * 5, none⟩) (n - i) (c - i)) (by simp [Act.eval, Act.put]) (by simp [Act.eval, Act.put]) (hcpB _ hF1 hF2 3 (G - (i + 1)) (c - i)) ?_)
  go_wp2
  go_ret
  exact ⟨rfl, rfl⟩
end Go.Bd

/- BINDS, 14: slices.Insert's contract inside a row. -/
namespace Go.Bd
set_option maxRecDepth 100000
set_option linter.unusedSimpArgs false
set_option linter.unusedVariables false
open Go Go.Am Go.Proofs Go.Seat Go.Lib

theorem setCells_same (b : Nat) : ∀ (vs : List Value) (o : Nat) (w : World), (w.setCells b o vs).os = w.os ∧ (w.setCells b o vs).tape = w.tape ∧ (w.setCells b o vs).output = w.output ∧ (w.setCells b o vs).drawn = w.drawn ∧ (w.setCells b o vs).heap.size = w.heap.size ∧ ∀ i, i ≠ b → (w.setCells b o vs).heap[i]? = w.heap[i]?
  | [], _, _ => ⟨rfl, rfl, rfl, rfl, rfl, fun _ _ => rfl⟩
  | v :: r, o, w => by
    obtain ⟨h1, h2, h3, h4, h5, h6⟩ := setCells_same b r (o + 1) (w.setCell ⟨b, o, none⟩ v)
    rw [World.setCells]
    refine ⟨h1, h2, h3, h4, by rw [h5]; simp [World.setCell], fun i hi => ?_⟩
    rw [h6 i hi]
    simp [World.setCell, Array.getElem?_modify, Ne.symm hi]

/-- The cells of a bind. -/
def encW (b : BE) : List Value := [.string b.ky, .int .i64 b.dv, .int .i64 b.sq, .int .i64 b.tm, .string b.vl]
def fl (l : List BE) : List Value := l.flatMap encW
theorem encW_len (b : BE) : (encW b).length = 5 := rfl
theorem encW_one (b : BE) : ∀ v ∈ encW b, v.oneCell' = true := by
  intro v hv
  simp only [encW, List.mem_cons, List.not_mem_nil, or_false] at hv
  rcases hv with h | h | h | h | h <;> subst h <;> rfl
theorem fl_cons (b : BE) (l : List BE) : fl (b :: l) = encW b ++ fl l := rfl
theorem fl_append (a b : List BE) : fl (a ++ b) = fl a ++ fl b := by simp [fl]
theorem fl_len : ∀ l : List BE, (fl l).length = l.length * 5
  | [] => rfl
  | b :: l => by rw [fl_cons, List.length_append, fl_len l, encW_len, List.length_cons]; omega
theorem fl_one (l : List BE) : ∀ v ∈ fl l, v.oneCell' = true := by
  intro v hv
  obtain ⟨b, _, h⟩ := List.mem_flatMap.1 hv
  exact encW_one b v h
theorem fl_get : ∀ {l : List BE} {k j : Nat} (hk : k < l.length), j < 5 → (fl l)[k * 5 + j]? = some ((encW l[k]).getD j undef)
  | b :: l, 0, j, _, hj => by
    rw [fl_cons, Nat.zero_mul, Nat.zero_add, List.getElem?_append_left (by rw [encW_len]; exact hj), List.getElem?_eq_getElem (by rw [encW_len]; exact hj)]
    simp [List.getD_eq_getElem?_getD, List.getElem?_eq_getElem (show j < (encW b).length by rw [encW_len]; exact hj)]
  | b :: l, k + 1, j, hk, hj => by
    rw [fl_cons, List.getElem?_append_right (by rw [encW_len]; omega), encW_len, show (k + 1) * 5 + j - 5 = k * 5 + j by omega]
    exact fl_get (by simpa using hk) hj
theorem fl_take (l : List BE) (i : Nat) : fl (l.take i) = (fl l).take (i * 5) := by
  rcases Nat.lt_or_ge l.length i with h | h
  · rw [List.take_of_length_le (by omega), List.take_of_length_le (by rw [fl_len]; omega)]
  · conv => rhs; rw [← List.take_append_drop i l, fl_append]
    rw [List.take_left' (by rw [fl_len, List.length_take]; omega)]
theorem fl_drop (l : List BE) (i : Nat) : fl (l.drop i) = (fl l).drop (i * 5) := by
  rcases Nat.lt_or_ge l.length i with h | h
  · rw [List.drop_of_length_le (by omega), List.drop_of_length_le (by rw [fl_len]; omega)]; rfl
  · conv => rhs; rw [← List.take_append_drop i l, fl_append]
    rw [List.drop_left' (by rw [fl_len, List.length_take]; omega)]

theorem enc_prep (w : World) (M : Nat → Prop) (b : BE) {j : Nat} (hj : j < 5) : PRep w M ((enc b).getD j .dead) ((encW b).getD j undef) := by
  match j, hj with
  | 0, _ => exact .lit _
  | 1, _ => exact .lit _
  | 2, _ => exact .lit _
  | 3, _ => exact .lit _
  | 4, _ => exact .lit _
theorem enc_val {V : View} {b : BE} {j : Nat} {v : Value} (hj : j < 5) (h : Rep V ((enc b).getD j .dead) v) : v = (encW b).getD j undef := by
  match j, hj with
  | 0, _ => exact rep_lit h
  | 1, _ => exact rep_lit h
  | 2, _ => exact rep_lit h
  | 3, _ => exact rep_lit h
  | 4, _ => exact rep_lit h
/-- A row of binds in a new state, as data; the old row let go. -/
theorem ins_goes {V : View} {w' : World} {bb cap : Nat} {y : List BE} {xs : List (List AV)} (hH : V.H = [.arr 0 5 false xs]) (hG : HeapRep G V) (hbb : bb = V.ρ 0 ∨ V.w.heap.size ≤ bb)
    (h1 : w'.os = V.w.os) (h2 : w'.tape = V.w.tape) (h3 : w'.output = V.w.output) (h4 : V.w.heap.size ≤ w'.heap.size) (h5 : V.w.drawn ≤ w'.drawn) (h6 : ∀ i, i < V.w.heap.size → i ≠ V.ρ 0 → w'.heap[i]? = V.w.heap[i]?)
    (hc : ∀ j v, (fl y)[j]? = some v → w'.cell? ⟨bb, j, none⟩ = some v) (hcap : y.length ≤ cap) : Goes G V [.gone] (.ret (bes y)) (.returned (.slice (some ⟨bb, 0, none⟩) y.length cap)) w' := by
  have hlen : V.H.length = 1 := by rw [hH]; rfl
  have hM : V.M (V.ρ 0) := hG.mutb 0 _ (by rw [hH]; rfl) rfl
  have hlt : V.ρ 0 < V.w.heap.size := hG.lt 0 (by omega)
  have hst : Step V { w := w', M := fun x => V.M x ∧ x ≠ bb, H := [.gone], ρ := V.ρ } := {
    os := h1
    tape := h2
    output := h3
    size := h4
    drawn := trivial
    keep := fun b hb hn => ⟨h6 b hb fun e => hn 0 (by omega) e.symm, ⟨fun h => h.1, fun h => ⟨h, fun e => by
      rcases hbb with h' | h'
      · exact hn 0 (by omega) (by omega)
      · omega⟩⟩⟩
    data := fun b hb hn => ⟨h6 b hb fun e => hn (e ▸ hM), fun h => hn h.1⟩
    hlen := by rw [hlen]; exact Nat.le_refl _
    fresh := fun id hid => .inl ⟨by rw [hlen]; exact hid, rfl⟩
    obj := fun id hid => by
      have : id = 0 := by omega
      subst this
      unfold ObjStep
      rw [hH]
      exact trivial }
  refine ⟨_, rfl, hst, ?_, rfl, ?_⟩
  · exact {
      lt := fun id hid => by
        have : id = 0 := by have : id < 1 := hid; omega
        subst this
        exact Nat.lt_of_lt_of_le hlt h4
      obj := fun id o ho => by
        match id, ho with
        | 0, ho =>
          injection ho with ho
          subst ho
          exact trivial
      inj := fun i j hi hj _ => by
        have : i < 1 := hi
        have : j < 1 := hj
        omega
      mutb := fun id o ho hop => by
        match id, ho with
        | 0, ho =>
          injection ho with ho
          subst ho
          cases hop
      glob := hG.glob_step hst }
  · have key : PRep w' (fun x => V.M x ∧ x ≠ bb) (.sl 5 false (encs y)) (.slice (some ⟨bb, 0, none⟩) (encs y).length cap) :=
      .sl 5 false (encs y) (some ⟨bb, 0, none⟩) cap bb 0 (fun k j => ((y[k]?).map fun b => (encW b).getD j undef).getD undef) (fun _ => rfl) (fun _ _ h => h.2 rfl) (by rw [encs_length]; exact hcap) (fun h => by cases h)
        (fun x hx => by obtain ⟨b, _, rfl⟩ := List.mem_map.1 hx; rfl)
        (fun k j hk hj => by
          rw [encs_length] at hk
          rw [List.getElem?_eq_getElem hk, Nat.zero_add]
          exact hc _ _ (fl_get hk hj))
        (fun k j hk hj => by
          rw [encs_length] at hk
          rw [List.getElem?_eq_getElem hk]
          have hm : (encW y[k]).getD j undef ∈ encW y[k] := by
            rw [List.getD_eq_getElem?_getD, List.getElem?_eq_getElem (by rw [encW_len]; exact hj)]
            exact List.getElem_mem _
          exact encW_one _ _ hm)
        (fun k j hk hj => by
          rw [encs_length] at hk
          rw [List.getElem?_eq_getElem hk]
          have e : (encs y).getD k [] = enc y[k] := by rw [List.getD_eq_getElem?_getD, encs_get?, List.getElem?_eq_getElem hk]; rfl
          rw [e]
          exact enc_prep _ _ _ hj)
    rw [encs_length] at key
    exact Rep.pure _ _ key

theorem alloc_size (w : World) (o : Obj) : (w.alloc o).heap.size = w.heap.size + 1 := by
  show (w.heap.push _).size = _
  rw [Array.size_push]
theorem alloc_cell (w : World) (R : Array Value) (t : TypeId) (j : Nat) : (w.alloc (.cells R t)).cell? ⟨w.heap.size, j, none⟩ = R[j]? := by
  unfold World.cell? World.alloc
  simp only [Array.getElem?_push_size]
  rfl
theorem alloc_old (w : World) (o : Obj) (k : Nat) (hk : k < w.heap.size) : (w.alloc o).heap[k]? = w.heap[k]? := by
  show (w.heap.push _)[k]? = _
  rw [Array.getElem?_push_lt hk, Array.getElem?_eq_getElem hk]
theorem drew_os (w : World) : w.drew.os = w.os := rfl
theorem drew_tape (w : World) : w.drew.tape = w.tape := rfl
theorem drew_output (w : World) : w.drew.output = w.output := rfl
theorem drew_heap (w : World) : w.drew.heap = w.heap := rfl
theorem drew_drawn (w : World) : w.drew.drawn = w.drawn + 1 := rfl
theorem drew_cell (w : World) (a : Addr) : w.drew.cell? a = w.cell? a := rfl
set_option maxHeartbeats 2000000 in
theorem ins_in (x w : List BE) (b : BE) (i : Nat) (hi : i < x.length) (hx : x.length ≤ 1000000000) : CallC P G 31 [.own 0 0 0 x.length, int i, .sl 5 true [enc b]] [.arr 0 5 false (encs (x ++ w))] (.ret (bes (x.take i ++ [b] ++ x.drop i))) [.gone] := by
  intro V vs hH hG hr
  rw [callsIn_wide]
  obtain ⟨v0, v1, v2, rfl⟩ : ∃ v0 v1 v2, vs = [v0, v1, v2] := by
    have := hr.1
    match vs, this with
    | [a, b, c], _ => exact ⟨a, b, c, rfl⟩
  have e1 := rep_lit hr.tail.head
  subst e1
  have hs := rep_sl hr.tail.tail.head
  have ho := (rep_own hr.head).2
  have hH0 : V.H[0]? = some (.arr 0 5 false (encs (x ++ w))) := by rw [hH]; rfl
  rw [hH0] at ho
  obtain ⟨A, cap, c, t, rfl, hA, hle, hmax, hheap, hsize⟩ := ho.2 rfl
  obtain ⟨t', c', hheap', hcs0, _, hcell⟩ := hG.obj 0 _ hH0
  rw [hheap] at hheap'
  injection hheap' with hheap'
  injection hheap' with ec et
  subst ec et
  have hcap0 : cap ≠ 0 := by omega
  rw [Nat.zero_add] at hsize
  rw [hA hcap0, Nat.zero_mul]
  cases hs with
  | sl _ _ _ A2 cap2 vb vo f hA2 hb2 hcap2 ht2 hsz2 hc2 ho2 hr2 =>
    have e2 : A2 = some ⟨vb, vo, none⟩ := hA2 (by simp)
    subst e2
    have hMb : ¬ V.M vb := hb2 (by simp) (by decide)
    have hM : V.M (V.ρ 0) := hG.mutb 0 _ hH0 rfl
    have hne : vb ≠ V.ρ 0 := fun e => hMb (e ▸ hM)
    have hbw : V.ρ 0 < V.w.heap.size := hG.lt 0 (by rw [hH]; exact Nat.zero_lt_one)
    have hvs : ∀ j v, (encW b)[j]? = some v → V.w.cell? ⟨vb, vo + j, none⟩ = some v := fun j v hj => by
      have hj5 : j < 5 := (List.getElem?_eq_some_iff.1 hj).1
      have h1 := hc2 0 j Nat.zero_lt_one hj5
      have h2 := enc_val (V := V) hj5 (.pure _ _ (hr2 0 j Nat.zero_lt_one hj5))
      rw [h2] at h1
      rw [List.getD_eq_getElem?_getD, hj] at h1
      simpa using h1
    have hxl : ∀ k (hk : k < x.length), (encs (x ++ w)).getD k [] = enc x[k] := fun k hk => by
      rw [List.getD_eq_getElem?_getD, encs_get?, List.getElem?_append_left hk, List.getElem?_eq_getElem hk]; rfl
    have hcs : ∀ j v, (fl x)[j]? = some v → V.w.cell? ⟨V.ρ 0, j, none⟩ = some v := fun j v hj => by
      have hjl : j < x.length * 5 := by rw [← fl_len]; exact (List.getElem?_eq_some_iff.1 hj).1
      have hk : j / 5 < x.length := by omega
      have hm : j % 5 < 5 := Nat.mod_lt _ (by decide)
      obtain ⟨u, hu, _, hu2⟩ := hcell (j / 5) (j % 5) (by rw [encs_length, List.length_append]; omega) hm
      rw [hxl _ hk] at hu2
      have hu3 := enc_val hm hu2
      have hg := fl_get hk hm
      rw [show j / 5 * 5 + j % 5 = j by omega] at hg hu
      rw [hg] at hj
      injection hj with hj
      simp only [World.cell?, hheap]
      show c[j]? = some v
      rw [hu, hu3, hj]
    have hy : (x.take i ++ [b] ++ x.drop i).length = x.length + 1 := by simp; omega
    have hfy : fl (x.take i ++ [b] ++ x.drop i) = (fl x).take (i * 5) ++ encW b ++ (fl x).drop (i * 5) := by
      rw [fl_append, fl_append, fl_take, fl_drop]; simp [fl]
    have hdl : ((fl x).drop (i * 5)).length = (x.length - i) * 5 := by rw [List.length_drop, fl_len, Nat.sub_mul]
    have htl : ((fl x).take (i * 5)).length = i * 5 := by rw [List.length_take, fl_len]; omega
    -- what stands where, in the end
    have fin : ∀ (W : World) (bb : Nat), (∀ j v, j < i * 5 → (fl x)[j]? = some v → W.cell? ⟨bb, j, none⟩ = some v) → (∀ j (hj : j < 5), W.cell? ⟨bb, i * 5 + j, none⟩ = some ((encW b)[j]'(by rw [encW_len]; exact hj))) → (∀ j (hj : j < ((fl x).drop (i * 5)).length), W.cell? ⟨bb, (i + 1) * 5 + j, none⟩ = some ((fl x).drop (i * 5))[j]) → ∀ j v, (fl (x.take i ++ [b] ++ x.drop i))[j]? = some v → W.cell? ⟨bb, j, none⟩ = some v := fun W bb k1 k2 k3 j v hj => by
      rw [hfy] at hj
      rcases Nat.lt_or_ge j (i * 5) with h | h
      · rw [List.append_assoc, List.getElem?_append_left (by omega), List.getElem?_take, if_pos h] at hj
        exact k1 j v h hj
      · rcases Nat.lt_or_ge j ((i + 1) * 5) with h' | h'
        · rw [List.append_assoc, List.getElem?_append_right (by omega), htl, List.getElem?_append_left (by rw [encW_len]; omega)] at hj
          have := k2 (j - i * 5) (by omega)
          rw [show i * 5 + (j - i * 5) = j by omega] at this
          rw [this, ← hj, List.getElem?_eq_getElem]
        · rw [List.getElem?_append_right (by rw [List.length_append, htl, encW_len]; omega), List.length_append, htl, encW_len] at hj
          obtain ⟨hl, he⟩ := List.getElem?_eq_some_iff.1 hj
          have := k3 (j - (i * 5 + 5)) hl
          rw [show (i + 1) * 5 + (j - (i * 5 + 5)) = j by omega] at this
          rw [this, he]
    have hlc : ([enc b] : List (List AV)).length = 1 := rfl
    rcases Nat.lt_or_ge cap (x.length + 1) with hroom | hroom
    · have hcon := ins_grow (V.ρ 0) x.length cap i vb vo cap2 (fl x) (encW b) V.w hi hle hroom (by omega) (fl_len x) (encW_len b) hcs hvs (fl_one x) (encW_one b)
      refine Calls.mono hcon fun e w' he => ?_
      obtain ⟨rfl, rfl⟩ := he
      have hGn : x.length + 1 ≤ grownCap V.w (x.length + 1) cap 26 := grownCap_ge V.w _ _ _
      obtain ⟨GG, hGG⟩ : ∃ GG, GG = grownCap V.w (x.length + 1) cap 26 := ⟨_, rfl⟩
      rw [← hGG] at hGn ⊢
      have hRs : (rowI (fl x) x.length i GG).size = GG * 5 := rowI_size _ _ _ _ (fl_len x) hi hGn
      have hRt : ∀ j v, j < i * 5 → (fl x)[j]? = some v → (rowI (fl x) x.length i GG)[j]? = some v := fun j v hj hv => by
        rw [rowI, Array.append_assoc, Array.getElem?_append_left (by rw [List.size_toArray]; omega), List.getElem?_toArray, List.getElem?_take, if_pos hj, hv]
      obtain ⟨ROW, hROW⟩ : ∃ ROW, ROW = rowI (fl x) x.length i GG := ⟨_, rfl⟩
      rw [← hROW] at hRs hRt ⊢
      obtain ⟨W0, hW0⟩ : ∃ W0, W0 = V.w.alloc (.cells ROW 26) := ⟨_, rfl⟩
      have hW0s : W0.heap.size = V.w.heap.size + 1 := by rw [hW0]; exact alloc_size _ _
      have hW0c : ∀ j, W0.cell? ⟨V.w.heap.size, j, none⟩ = ROW[j]? := fun j => by rw [hW0]; exact alloc_cell _ _ _ _
      have hW0o : ∀ k, k < V.w.heap.size → W0.heap[k]? = V.w.heap[k]? := fun k hk => by rw [hW0]; exact alloc_old _ _ _ hk
      have w1 : W0.os = V.w.os := by rw [hW0]; rfl
      have w2 : W0.tape = V.w.tape := by rw [hW0]; rfl
      have w3 : W0.output = V.w.output := by rw [hW0]; rfl
      have w4 : W0.drawn = V.w.drawn := by rw [hW0]; rfl
      rw [← hW0]
      clear hW0 hROW hGG hcon
      obtain ⟨a1, a2, a3, a4, a5, a6⟩ := setCells_same V.w.heap.size (encW b) (i * 5) W0.drew
      obtain ⟨b1, b2, b3, b4, b5, b6⟩ := setCells_same V.w.heap.size ((fl x).drop (i * 5)) ((i + 1) * 5) ((W0.drew.setCells V.w.heap.size (i * 5) (encW b)).drew)
      have hsome : ∀ j, j < (x.length + 1) * 5 → (W0.drew.cell? ⟨V.w.heap.size, j, none⟩).isSome = true := fun j hj => by
        have hj' : j < ROW.size := by omega
        rw [drew_cell, hW0c, Array.getElem?_eq_getElem hj']; rfl
      have hsome2 : ∀ j, j < (x.length + 1) * 5 → ((W0.drew.setCells V.w.heap.size (i * 5) (encW b)).cell? ⟨V.w.heap.size, j, none⟩).isSome = true := fun j hj =>
        isSome_setCells V.w.heap.size (encW b) (i * 5) W0.drew (fun k hk => hsome (i * 5 + k) (by rw [encW_len] at hk; omega)) j (hsome j hj)
      rw [← hy]
      refine ins_goes hH hG (.inr (Nat.le_refl _)) ?_ ?_ ?_ ?_ ?_ ?_ ?_ (by rw [hy]; exact hGn)
      · rw [b1]; rw [drew_os, a1, drew_os, w1]
      · rw [b2]; rw [drew_tape, a2, drew_tape, w2]
      · rw [b3]; rw [drew_output, a3, drew_output, w3]
      · rw [b5, drew_heap, a5, drew_heap]; omega
      · rw [b4, drew_drawn, a4, drew_drawn]; omega
      · intro k hk _
        rw [b6 k (by omega), drew_heap, a6 k (by omega), drew_heap]
        exact hW0o k hk
      · refine fin _ _ (fun j v hj hv => ?_) (fun j hj => ?_) fun j hj => ?_
        · rw [World.cell?_setCells_out _ _ _ _ _ (fun _ _ => .inl (by show j < (i + 1) * 5; omega))]
          rw [drew_cell, World.cell?_setCells_out _ _ _ _ _ (fun _ _ => .inl hj), drew_cell, hW0c]
          exact hRt j v hj hv
        · rw [World.cell?_setCells_out _ _ _ _ _ (fun _ _ => .inl (by show i * 5 + j < (i + 1) * 5; omega))]
          rw [drew_cell]
          exact World.cell?_setCells_in V.w.heap.size (encW b) (i * 5) W0.drew (fun k hk => hsome (i * 5 + k) (by rw [encW_len] at hk; omega)) j hj
        · exact World.cell?_setCells_in V.w.heap.size ((fl x).drop (i * 5)) ((i + 1) * 5) (W0.drew.setCells V.w.heap.size (i * 5) (encW b)).drew (fun k hk => by rw [drew_cell]; exact hsome2 ((i + 1) * 5 + k) (by rw [hdl] at hk; omega)) j hj
    · have hvc : V.w.cell? ⟨vb, vo, none⟩ = some (.string b.ky) := hvs 0 _ rfl
      obtain ⟨tA, kA, hsa, hkA⟩ : ∃ tA kA, V.w.shape? vb = some (tA, kA) ∧ kA ≠ 0 := by
        unfold World.cell? at hvc
        simp only at hvc
        split at hvc
        · rename_i c2 t2 f2 hq
          refine ⟨t2, c2.size, by simp [World.shape?, hq], ?_⟩
          have : c2[vo]? = some (Value.string b.ky) := by simpa using hvc
          have := (Array.getElem?_eq_some_iff.1 this).1
          omega
        · cases hvc
      have hcon := ins_shift (V.ρ 0) x.length cap i vb vo cap2 (fl x) (encW b) V.w hi hroom (by unfold maxLen at hmax; omega) hne (fl_len x) (encW_len b) hcs
        (fun j hj => by simp only [World.cell?, hheap]; show (c[j]?).isSome = true; rw [Array.getElem?_eq_getElem (by omega)]; rfl) (fun j => by simp [World.frozen?, hheap]) hvs (fl_one x) (encW_one b) tA t kA c.size hsa (by simp [World.shape?, hheap]) hkA (by omega)
      refine Calls.mono hcon fun e w' he => ?_
      obtain ⟨rfl, rfl⟩ := he
      obtain ⟨a1, a2, a3, a4, a5, a6⟩ := setCells_same (V.ρ 0) ((fl x).drop (i * 5)) ((i + 1) * 5) V.w.drew
      obtain ⟨b1, b2, b3, b4, b5, b6⟩ := setCells_same (V.ρ 0) (encW b) (i * 5) (V.w.drew.setCells (V.ρ 0) ((i + 1) * 5) ((fl x).drop (i * 5)))
      have hsome : ∀ j, j < (x.length + 1) * 5 → (V.w.drew.cell? ⟨V.ρ 0, j, none⟩).isSome = true := fun j hj => by
        show (V.w.cell? ⟨V.ρ 0, j, none⟩).isSome = true
        simp only [World.cell?, hheap]; show (c[j]?).isSome = true; rw [Array.getElem?_eq_getElem (by omega)]; rfl
      have hsome2 : ∀ j, j < (x.length + 1) * 5 → ((V.w.drew.setCells (V.ρ 0) ((i + 1) * 5) ((fl x).drop (i * 5))).cell? ⟨V.ρ 0, j, none⟩).isSome = true := fun j hj =>
        isSome_setCells (V.ρ 0) ((fl x).drop (i * 5)) ((i + 1) * 5) V.w.drew (fun k hk => hsome ((i + 1) * 5 + k) (by rw [hdl] at hk; omega)) j (hsome j hj)
      rw [← hy]
      refine ins_goes hH hG (.inl rfl) ?_ ?_ ?_ ?_ ?_ ?_ ?_ (by rw [hy]; exact hroom)
      · rw [b1, a1, drew_os]
      · rw [b2, a2, drew_tape]
      · rw [b3, a3, drew_output]
      · rw [b5, a5, drew_heap]; exact Nat.le_refl _
      · rw [b4, a4, drew_drawn]; omega
      · intro k hk hne
        rw [b6 k hne, a6 k hne, drew_heap]
      · refine fin _ _ (fun j v hj hv => ?_) (fun j hj => ?_) fun j hj => ?_
        · rw [World.cell?_setCells_out _ _ _ _ _ (fun _ _ => .inl hj), World.cell?_setCells_out _ _ _ _ _ (fun _ _ => .inl (by show j < (i + 1) * 5; omega))]
          exact hcs j v hv
        · exact World.cell?_setCells_in (V.ρ 0) (encW b) (i * 5) (V.w.drew.setCells (V.ρ 0) ((i + 1) * 5) ((fl x).drop (i * 5))) (fun k hk => hsome2 (i * 5 + k) (by rw [encW_len] at hk; omega)) j hj
        · rw [World.cell?_setCells_out _ _ _ _ _ (fun _ _ => .inr (by show i * 5 + (encW b).length ≤ (i + 1) * 5 + j; rw [encW_len]; omega))]
          exact World.cell?_setCells_in (V.ρ 0) ((fl x).drop (i * 5)) ((i + 1) * 5) V.w.drew (fun k hk => hsome ((i + 1) * 5 + k) (by rw [hdl] at hk; omega)) j hj
end Go.Bd

/- BINDS, 15: Put. -/
namespace Go.Bd
set_option maxRecDepth 100000
set_option linter.unusedSimpArgs false
set_option linter.unusedVariables false
open Go Go.Am Go.Proofs Go.Seat

theorem app_room (x w : List BE) (b y : BE) : List.take (x.length + 1) (List.drop 0 (List.take x.length (encs (x ++ y :: w)) ++ [str b.ky, int b.dv, int b.sq, int b.tm, str b.vl] :: List.drop (x.length + 1) (encs (x ++ y :: w)))) = encs (x ++ [b]) := by
  have h : ∀ L : List (List AV), List.take (x.length + 1) (encs x ++ enc b :: L) = encs x ++ [enc b] := fun L => by
    rw [show encs x ++ enc b :: L = (encs x ++ [enc b]) ++ L by simp]
    exact List.take_left' (by simp [encs_length])
  rw [List.drop_zero, encs_take, List.take_left]
  exact (h _).trans (by rw [encs_one, encs_append])

theorem ins_e0 (x : List BE) (b : BE) (i : Int) (hi : i = (x.length : Int)) (hx : x.length ≤ 1000000000) (h : True) : CallC P G 31 [AV.own 0 0 0 (List.length x), int i, AV.sl 5 true [enc b]] [AObj.arr 0 5 false (encs x)] (AOut.ret (bes (x ++ [b]))) [AObj.gone] := by
  have hz0 : 0 = 0 := (rfl)
  have _ := h
  exact CallC.heapSub ((show CallC P G 31 [AV.own 0 0 0 (List.length x), int i, AV.sl 5 true [enc b]] [AObj.arr 0 5 false (encs x)] (AOut.ret (AV.sl 5 false (encs (x ++ [BE.mk (BE.ky b) (BE.dv b) (BE.sq b) (BE.tm b) (BE.vl b)])))) [AObj.arr 1 5 true (encs (x ++ [BE.mk (BE.ky b) (BE.dv b) (BE.sq b) (BE.tm b) (BE.vl b)]))] from callC_of [kp hz0, kp (show (0 : Int) ≤ i ∧ i ≤ (↑(List.length x) : Int) ∧ (↑(List.length x) : Int) ≤ (↑(List.length x) : Int) from (by omega)), kf (Eq.refl false), kp hz0, kt (show (i == (↑(List.length x) : Int)) = true from (decide_eq_true (by omega))), ko (Orc.hp (some 25) (AV.own 0 1 0 (List.length (x ++ [BE.mk (BE.ky b) (BE.dv b) (BE.sq b) (BE.tm b) (BE.vl b)]))) [AObj.arr 1 5 false (encs (x ++ [BE.mk (BE.ky b) (BE.dv b) (BE.sq b) (BE.tm b) (BE.vl b)]))]), ko (Orc.frz (encs (x ++ [BE.mk (BE.ky b) (BE.dv b) (BE.sq b) (BE.tm b) (BE.vl b)]))), kp (show Am.Sub (AV.own 0 1 0 (List.length x + 1)) (AV.own 0 1 0 (List.length (x ++ [BE.mk (BE.ky b) (BE.dv b) (BE.sq b) (BE.tm b) (BE.vl b)]))) from (Sub.of_eq (by simp [Go.Bd.encs_ids, Go.Bd.encs_pure, Go.Bd.encs_all, Go.Bd.encs_length]))), kp (show Am.HSub [AObj.arr 1 5 false (encs x ++ [[str (BE.ky b), int (BE.dv b), int (BE.sq b), int (BE.tm b), str (BE.vl b)]])] [AObj.arr 1 5 false (encs (x ++ [BE.mk (BE.ky b) (BE.dv b) (BE.sq b) (BE.tm b) (BE.vl b)]))] from (⟨.inl (by simp only [Go.Bd.encs_append, Go.Bd.encs_mk]), trivial⟩)), kp hz0, kp (show List.length x = List.length (encs x) from ((Go.Bd.encs_length _).symm)), kp (show (List.length x + 1) * 56 ≤ 140737488355328 from (by omega)), kp (show 1 = 1 from (rfl)), kp (show List.take (List.length (x ++ [BE.mk (BE.ky b) (BE.dv b) (BE.sq b) (BE.tm b) (BE.vl b)])) (List.drop 0 (encs (x ++ [BE.mk (BE.ky b) (BE.dv b) (BE.sq b) (BE.tm b) (BE.vl b)]))) = encs (x ++ [BE.mk (BE.ky b) (BE.dv b) (BE.sq b) (BE.tm b) (BE.vl b)]) from (Go.Bd.encs_all _)), kp (show List.length (encs (x ++ [BE.mk (BE.ky b) (BE.dv b) (BE.sq b) (BE.tm b) (BE.vl b)])) = List.length (x ++ [BE.mk (BE.ky b) (BE.dv b) (BE.sq b) (BE.tm b) (BE.vl b)]) from (Go.Bd.encs_length _)), kp (show ∀ (c : List AV), c ∈ encs (x ++ [BE.mk (BE.ky b) (BE.dv b) (BE.sq b) (BE.tm b) (BE.vl b)]) → List.all c AV.pureB = true from (Go.Bd.encs_pure _))] (by kernel_rfl))) (by exact ⟨.inr trivial, trivial⟩)

theorem ins_e1 (x w : List BE) (b y : BE) (i : Int) (hi : i = (x.length : Int)) (hx : x.length ≤ 1000000000) (h : ((List.length x + 1 ≤ List.length (encs (x ++ y :: w))) ∧ ((List.take (List.length x + 1) (List.drop 0 (List.take (List.length x) (encs (x ++ y :: w)) ++ [str (BE.ky b), int (BE.dv b), int (BE.sq b), int (BE.tm b), str (BE.vl b)] :: List.drop (List.length x + 1) (encs (x ++ y :: w)))) = encs (x ++ [b])) ∧ ((List.length (encs (x ++ [b])) = List.length x + 1) ∧ True)))) : CallC P G 31 [AV.own 0 0 0 (List.length x), int i, AV.sl 5 true [enc b]] [AObj.arr 0 5 false (encs (x ++ y :: w))] (AOut.ret (bes (x ++ [b]))) [AObj.gone] := by
  have hz0 : 0 = 0 := (rfl)
  obtain ⟨o2, h⟩ := h
  obtain ⟨o3, h⟩ := h
  obtain ⟨o4, h⟩ := h
  have _ := h
  exact CallC.heapSub ((show CallC P G 31 [AV.own 0 0 0 (List.length x), int i, AV.sl 5 true [enc b]] [AObj.arr 0 5 false (encs (x ++ y :: w))] (AOut.ret (AV.sl 5 false (encs (x ++ [b])))) [AObj.arr 1 5 true (List.take (List.length x) (encs (x ++ y :: w)) ++ [str (BE.ky b), int (BE.dv b), int (BE.sq b), int (BE.tm b), str (BE.vl b)] :: List.drop (List.length x + 1) (encs (x ++ y :: w)))] from callC_of [kp hz0, kp (show (0 : Int) ≤ i ∧ i ≤ (↑(List.length x) : Int) ∧ (↑(List.length x) : Int) ≤ (↑(List.length x) : Int) from (by omega)), kf (Eq.refl false), kp hz0, kt (show (i == (↑(List.length x) : Int)) = true from (decide_eq_true (by omega))), ko (Orc.own), ko (Orc.frz (encs (x ++ [b]))), kp hz0, kp o2, kp (show 1 = 1 from (rfl)), kp o3, kp o4, kp (show ∀ (c : List AV), c ∈ encs (x ++ [b]) → List.all c AV.pureB = true from (Go.Bd.encs_pure _))] (by kernel_rfl))) (by exact ⟨.inr trivial, trivial⟩)

theorem ins_z (x : List BE) (b : BE) (i : Int) (hi : i = (x.length : Int)) (hx : x.length ≤ 1000000000) (h : True) : CallC P G 31 [AV.sl 5 true (encs x), int i, AV.sl 5 true [enc b]] [] (AOut.ret (bes (x ++ [b]))) [] := by
  have _ := h
  exact callC_of [kv 12 (show Am.Sub (AV.sl 5 true (List.drop (Int.toNat i) (List.take (Int.toNat (↑(List.length (encs x)) : Int)) (encs x)))) (AV.sl 5 true (List.drop (Int.toNat i) (List.take (Int.toNat (↑(List.length x) : Int)) (encs x)))) from (Sub.of_eq (by simp only [Go.Bd.encs_length]))), kp (show (0 : Int) ≤ i ∧ i ≤ (↑(List.length (encs x)) : Int) ∧ (↑(List.length (encs x)) : Int) ≤ (↑(List.length (encs x)) : Int) from (by rw [Go.Bd.encs_length]; omega)), kf (Eq.refl false), kv 19 (show Am.Sub (int (↑(List.length (encs x)) : Int)) (int (↑(List.length x) : Int)) from (Sub.of_eq (by simp only [Go.Bd.encs_length]))), kt (show (i == (↑(List.length x) : Int)) = true from (decide_eq_true (by omega))), ko (Orc.hp (some 25) (AV.own 0 0 0 (List.length (x ++ [BE.mk (BE.ky b) (BE.dv b) (BE.sq b) (BE.tm b) (BE.vl b)]))) [AObj.arr 0 5 false (encs (x ++ [BE.mk (BE.ky b) (BE.dv b) (BE.sq b) (BE.tm b) (BE.vl b)]))]), ko (Orc.frz (encs (x ++ [BE.mk (BE.ky b) (BE.dv b) (BE.sq b) (BE.tm b) (BE.vl b)]))), kp (show Am.Sub (AV.own 0 0 0 (List.length (encs x) + 1)) (AV.own 0 0 0 (List.length (x ++ [BE.mk (BE.ky b) (BE.dv b) (BE.sq b) (BE.tm b) (BE.vl b)]))) from (Sub.of_eq (by simp [Go.Bd.encs_ids, Go.Bd.encs_pure, Go.Bd.encs_length, Go.Bd.encs_all]))), kp (show Am.HSub [AObj.arr 0 5 false (encs x ++ [[str (BE.ky b), int (BE.dv b), int (BE.sq b), int (BE.tm b), str (BE.vl b)]])] [AObj.arr 0 5 false (encs (x ++ [BE.mk (BE.ky b) (BE.dv b) (BE.sq b) (BE.tm b) (BE.vl b)]))] from (⟨.inl (by simp only [Go.Bd.encs_append, Go.Bd.encs_mk]), trivial⟩)), kp (show [[str (BE.ky b), int (BE.dv b), int (BE.sq b), int (BE.tm b), str (BE.vl b)]] ≠ [] from (by simp)), kp (show (List.length (encs x) + 1) * 56 ≤ 140737488355328 from (by simp only [List.length_append, List.length_cons, List.length_nil, List.length_map, Go.Bd.encs_ids, Go.Bd.encs_pure, Go.Bd.encs_length, Go.Bd.encs_all] <;> omega)), kp (show 0 = 0 from (rfl)), kp (show List.take (List.length (x ++ [BE.mk (BE.ky b) (BE.dv b) (BE.sq b) (BE.tm b) (BE.vl b)])) (List.drop 0 (encs (x ++ [BE.mk (BE.ky b) (BE.dv b) (BE.sq b) (BE.tm b) (BE.vl b)]))) = encs (x ++ [BE.mk (BE.ky b) (BE.dv b) (BE.sq b) (BE.tm b) (BE.vl b)]) from (Go.Bd.encs_all _)), kp (show List.length (encs (x ++ [BE.mk (BE.ky b) (BE.dv b) (BE.sq b) (BE.tm b) (BE.vl b)])) = List.length (x ++ [BE.mk (BE.ky b) (BE.dv b) (BE.sq b) (BE.tm b) (BE.vl b)]) from (Go.Bd.encs_length _)), kp (show ∀ (c : List AV), c ∈ encs (x ++ [BE.mk (BE.ky b) (BE.dv b) (BE.sq b) (BE.tm b) (BE.vl b)]) → List.all c AV.pureB = true from (Go.Bd.encs_pure _))] (by kernel_rfl)

theorem ins_c (x w : List BE) (b : BE) (i : Nat) (hi : i ≤ x.length) (hx : x.length ≤ 1000000000) : CallC P G 31 [.own 0 0 0 x.length, int i, .sl 5 true [enc b]] [.arr 0 5 false (encs (x ++ w))] (.ret (bes (x.take i ++ [b] ++ x.drop i))) [.gone] := by
  rcases Nat.lt_or_ge i x.length with h | h
  · exact ins_in x w b i h hx
  · have e : i = x.length := by omega
    subst e
    rw [List.take_length, List.drop_length, List.append_nil]
    cases w with
    | nil => rw [List.append_nil]; exact ins_e0 x b _ rfl hx trivial
    | cons y w => exact ins_e1 x w b y _ rfl hx ⟨by rw [encs_length]; simp, app_room x w b y, by rw [encs_length]; simp, trivial⟩

theorem bz_l (x : List BE) (b : BE) (hx : x.length = 0) (h : True) : RunL P G none 0 (loopAt P 30 0) (St.mk (slots 49 [(0, AV.sl 5 true (encs x)), (2, fnF 18), (4, AV.ptr 0 0), (8, int (↑(List.length x) : Int)), (9, int 0), (10, int (↑(List.length x) : Int))]) [AObj.box (enc b)] []) (AEx.exit 0) (St.mk (slots 49 [(0, AV.sl 5 true (encs x)), (2, fnF 18), (4, AV.ptr 0 0), (8, int (↑(List.length x) : Int)), (9, int 0)]) [AObj.box (enc b)] []) := by
  have _ := h
  exact loop_exit [kf (show decide ((0 : Int) < (↑(List.length x) : Int)) = false from (decide_eq_false (by omega)))] (others 49 [0, 2, 4, 8, 9]) 1 (by kernel_rfl)

theorem bz_f (x : List BE) (b : BE) (hx : x.length = 0) (hL : RunL P G none 0 (loopAt P 30 0) { env := slots 49 [(0, .sl 5 true (encs x)), (2, fnF 18), (4, .ptr 0 0), (8, int x.length), (9, int 0), (10, int x.length)], H := [.box (enc b)] } (.exit 0) { env := slots 49 [(0, .sl 5 true (encs x)), (2, fnF 18), (4, .ptr 0 0), (8, int x.length), (9, int 0)], H := [.box (enc b)] }) (h : True) : CallC P G 30 [AV.sl 5 true (encs x), bel b, fnF 18] [] (AOut.ret (AV.tup [int 0, Am.bool false])) [] := by
  have _ := h
  exact callC_of [kv 13 (show Am.Sub (int (↑(List.length (encs x)) : Int)) (int (↑(List.length x) : Int)) from (Sub.of_eq (by simp only [Go.Bd.encs_length]))), kl [1, 3, 5, 6, 7, 11, 12, 13, 14, 15, 16, 17, 18, 19, 20, 21, 22, 23, 24, 25, 26, 27, 28, 29, 30, 31, 32, 33, 34, 35, 36, 37, 38, 39, 40, 41, 42, 43, 44, 45, 46, 47, 48] 1 (@hL ), kf (show decide ((0 : Int) < (↑(List.length x) : Int)) = false from (decide_eq_false (by omega)))] (by kernel_rfl)

theorem put_w (v w t : List BE) (c : List Vec.D) (b : BE) (p : Nat) (f : Bool) (hD : CallC P G 9 [bes v, Vec.vec c, str b.ky] [] (.ret (.tup [.own 2 0 0 t.length, int 0])) [.gone, .gone, .arr 0 5 false (encs (t ++ w))]) (hV : CallC P G 17 [bel b] [] (.ret (bool true)) []) (hC : CallC P G 22 [Vec.vec c, dta b.dv b.sq] [] (.ret (bool false)) []) (hF : CallC P G 29 [bes v, smF 0] [.box (enc b)] (.ret (bool false)) [.box (enc b)]) (hB : CallC P G 30 [.own 0 0 0 t.length, bel b, fnF 18] [.arr 0 5 false (encs (t ++ w))] (.ret (.tup [int p, bool f])) [.arr 0 5 false (encs (t ++ w))]) (r : List BE) (hI : CallC P G 31 [.own 0 0 0 t.length, int p, .sl 5 true [enc b]] [.arr 0 5 false (encs (t ++ w))] (.ret (bes r)) [.gone]) (h : True) : CallC P G 12 [bes v, Vec.vec c, bel b] [] (AOut.ret (AV.tup [bes r, int 0])) [] := by
  have hz1 : ∀ (x : List AV), x ∈ encs (t ++ w) → AV.idsInL [] x = true := (Go.Bd.encs_ids _)
  have _ := h
  exact callC_of [kc [] (@hD ), kp hz1, kf (Eq.refl false), kc [] (@hV ), kf (Eq.refl false), kc [] (@hC ), kf (Eq.refl false), kc [0] (@hF ), kf (Eq.refl false), kc [3] (@hB ), kp hz1, kp hz1, kc [3] (@hI ), kp hz1] (by kernel_rfl)

theorem put_z (v x : List BE) (c : List Vec.D) (b : BE) (hD : CallC P G 9 [bes v, Vec.vec c, str b.ky] [] (.ret (.tup [.sl 5 true (encs x), int 0])) []) (hV : CallC P G 17 [bel b] [] (.ret (bool true)) []) (hC : CallC P G 22 [Vec.vec c, dta b.dv b.sq] [] (.ret (bool false)) []) (hF : CallC P G 29 [bes v, smF 0] [.box (enc b)] (.ret (bool false)) [.box (enc b)]) (hB : CallC P G 30 [.sl 5 true (encs x), bel b, fnF 18] [] (.ret (.tup [int 0, bool false])) []) (r : List BE) (hI : CallC P G 31 [.sl 5 true (encs x), int 0, .sl 5 true [enc b]] [] (.ret (bes r)) []) (h : True) : CallC P G 12 [bes v, Vec.vec c, bel b] [] (AOut.ret (AV.tup [bes r, int 0])) [] := by
  have _ := h
  exact callC_of [kc [] (@hD ), kf (Eq.refl false), kc [] (@hV ), kf (Eq.refl false), kc [] (@hC ), kf (Eq.refl false), kc [0] (@hF ), kf (Eq.refl false), kc [] (@hB ), kc [] (@hI )] (by kernel_rfl)

theorem put_a (v : List BE) (c : List Vec.D) (b : BE) (e : Int) (hD : CallC P G 9 [bes v, Vec.vec c, str b.ky] [] (.ret (.tup [bes [], int e])) []) (he : e ≠ 0) (h : True) : CallC P G 12 [bes v, Vec.vec c, bel b] [] (AOut.ret (AV.tup [bes [], int e])) [] := by
  have _ := h
  exact CallC.out ((show CallC P G 12 [bes v, Vec.vec c, bel b] [] (AOut.ret (AV.tup [nilS, int e])) [] from callC_of [kc [] (@hD ), kt (show (e != 0) = true from (congrArg Bool.not (decide_eq_false (by omega))))] (by kernel_rfl))) (Sub.tups ⟨Sub.nil _, Sub.refl _, trivial⟩)

theorem put_v (v t : List BE) (c : List Vec.D) (b : BE) (hD : CallC P G 9 [bes v, Vec.vec c, str b.ky] [] (.ret (.tup [bes t, int 0])) []) (hV : CallC P G 17 [bel b] [] (.ret (bool false)) []) (h : True) : CallC P G 12 [bes v, Vec.vec c, bel b] [] (AOut.ret (AV.tup [bes [], int 140])) [] := by
  have _ := h
  exact CallC.out ((show CallC P G 12 [bes v, Vec.vec c, bel b] [] (AOut.ret (AV.tup [nilS, int 140])) [] from callC_of [kc [] (@hD ), kf (Eq.refl false), kc [] (@hV ), kt (Eq.refl true), kt (Eq.refl true), kt (Eq.refl true)] (by kernel_rfl))) (Sub.tups ⟨Sub.nil _, Sub.refl _, trivial⟩)

theorem put_c (v t : List BE) (c : List Vec.D) (b : BE) (hD : CallC P G 9 [bes v, Vec.vec c, str b.ky] [] (.ret (.tup [bes t, int 0])) []) (hV : CallC P G 17 [bel b] [] (.ret (bool true)) []) (hC : CallC P G 22 [Vec.vec c, dta b.dv b.sq] [] (.ret (bool true)) []) (h : True) : CallC P G 12 [bes v, Vec.vec c, bel b] [] (AOut.ret (AV.tup [bes [], int 140])) [] := by
  have _ := h
  exact CallC.out ((show CallC P G 12 [bes v, Vec.vec c, bel b] [] (AOut.ret (AV.tup [nilS, int 140])) [] from callC_of [kc [] (@hD ), kf (Eq.refl false), kc [] (@hV ), kf (Eq.refl false), kc [] (@hC ), kt (Eq.refl true), kt (Eq.refl true)] (by kernel_rfl))) (Sub.tups ⟨Sub.nil _, Sub.refl _, trivial⟩)

theorem put_m (v t : List BE) (c : List Vec.D) (b : BE) (hD : CallC P G 9 [bes v, Vec.vec c, str b.ky] [] (.ret (.tup [bes t, int 0])) []) (hV : CallC P G 17 [bel b] [] (.ret (bool true)) []) (hC : CallC P G 22 [Vec.vec c, dta b.dv b.sq] [] (.ret (bool false)) []) (hF : CallC P G 29 [bes v, smF 0] [.box (enc b)] (.ret (bool true)) [.box (enc b)]) (h : True) : CallC P G 12 [bes v, Vec.vec c, bel b] [] (AOut.ret (AV.tup [bes [], int 140])) [] := by
  have _ := h
  exact CallC.out ((show CallC P G 12 [bes v, Vec.vec c, bel b] [] (AOut.ret (AV.tup [nilS, int 140])) [] from callC_of [kc [] (@hD ), kf (Eq.refl false), kc [] (@hV ), kf (Eq.refl false), kc [] (@hC ), kf (Eq.refl false), kc [0] (@hF ), kt (Eq.refl true)] (by kernel_rfl))) (Sub.tups ⟨Sub.nil _, Sub.refl _, trivial⟩)

theorem insB_plc (b : BE) (x : List BE) : insB b x = x.take (plcB b x) ++ [b] ++ x.drop (plcB b x) := by
  have h1 : x.take (plcB b x) = x.takeWhile fun a => lessB a b := by
    conv => lhs; rhs; rw [← List.takeWhile_append_dropWhile (p := fun a => lessB a b) (l := x)]
    rw [plcB, List.take_left]
  have h2 : x.drop (plcB b x) = x.dropWhile fun a => lessB a b := by
    conv => lhs; rhs; rw [← List.takeWhile_append_dropWhile (p := fun a => lessB a b) (l := x)]
    rw [plcB, List.drop_left]
  rw [h1, h2]; simp [insB]

theorem put_c' (v : List BE) (c : List Vec.D) (b : BE) (hv : v.length ≤ 10000000) (hc : c.length ≤ 10000000) : CallC P G 12 [bes v, Vec.vec c, bel b] [] (.ret (.tup [bes (putR v c b).1, int (putR v c b).2])) [] := by
  have hD := drop_c v c b.ky hv hc
  have hV := valid_c b
  have hC := Vec.covers_c c b.dv b.sq (by omega)
  have hF := contains_c v b (by omega)
  unfold putR
  unfold dropR at hD
  by_cases e0 : chkE v = 0
  · rw [if_pos e0] at hD ⊢
    by_cases e1 : Vec.checkE c = 0
    · rw [if_pos e1] at hD ⊢
      cases hVb : validB b with
      | false =>
        rw [hVb] at hV
        rw [if_neg (by simp [mayB, hVb])]
        exact put_v v _ c b hD hV trivial
      | true =>
        rw [hVb] at hV
        cases hO : Vec.coversB c b.dot with
        | true =>
          rw [if_neg (by simp [mayB, hO])]
          exact put_c v _ c b hD hV (by rw [← hO]; exact hC) trivial
        | false =>
          have hC : CallC P G 22 [Vec.vec c, dta b.dv b.sq] [] (.ret (bool false)) [] := by rw [← hO]; exact hC
          cases hA : v.any fun a => decide (a.dot = b.dot) with
          | true =>
            rw [hA] at hF
            rw [if_neg (by simp only [mayB, hA]; simp)]
            exact put_m v _ c b hD hV hC hF trivial
          | false =>
            rw [hA] at hF
            rw [if_pos (by simp only [mayB, hA, hVb, hO]; rfl)]
            by_cases hne : v = []
            · subst hne
              exact put_z [] [] c b (drop_e c b.ky hc e1) hV hC hF (bz_f [] b rfl (bz_l [] b rfl trivial) trivial) _ (ins_z [] b 0 rfl (by simp) trivial) trivial
            · obtain ⟨w, hD'⟩ := drop_own v c b.ky hv hne hc e0 e1
              have hM : Map v := (ok_iff v).1 (by unfold chkE at e0; split at e0 <;> first | assumption | cases e0)
              have hl : (rest v c b.ky).length ≤ v.length := List.length_filter_le _ _
              obtain ⟨f, hB⟩ := bin_c (rest v c b.ky) w b (by omega) (rest_map hM c b.ky).sorted
              rw [insB_plc]
              exact put_w v w (rest v c b.ky) c b _ f hD' hV hC hF hB _ (ins_c (rest v c b.ky) w b _ (plcB_le _ _) (by omega)) trivial
    · rw [if_neg e1] at hD ⊢
      exact put_a v c b _ hD e1 trivial
  · rw [if_neg e0] at hD ⊢
    exact put_a v c b _ hD e0 trivial

end Go.Bd

/- BINDS, 9: the reference's Values and Keys. -/
namespace Go.Bd
set_option maxRecDepth 100000
set_option linter.unusedSimpArgs false
set_option linter.unusedVariables false
open Go Go.Am Go.Proofs Go.Seat

def plcK (k : ByteArray) (l : List ByteArray) : Nat := (l.takeWhile fun a => ltS a k).length
def insK (k : ByteArray) (l : List ByteArray) : List ByteArray := if l[plcK k l]? = some k then l else l.take (plcK k l) ++ [k] ++ l.drop (plcK k l)
def keyR : List ByteArray → List BE → List ByteArray
  | l, [] => l
  | l, x :: t => keyR (insK x.ky l) t
end Go.Bd

/- BINDS, 7: the reference's rest, Drop. -/
namespace Go.Bd
set_option maxRecDepth 100000
set_option linter.unusedSimpArgs false
set_option linter.unusedVariables false
open Go Go.Am Go.Proofs Go.Seat

end Go.Bd

/- BINDS, 8: the reference's Put. -/
namespace Go.Bd
set_option maxRecDepth 100000
set_option linter.unusedSimpArgs false
set_option linter.unusedVariables false
open Go Go.Am Go.Proofs Go.Seat

end Go.Bd

/- BINDS, 21: the chapter's examples. -/
namespace Go.Bd
set_option maxRecDepth 100000
set_option linter.unusedSimpArgs false
set_option linter.unusedVariables false
open Go Go.Am Go.Proofs Go.Seat

abbrev kA : BE := ⟨⟨#[107]⟩, 1, 1, 5, ⟨#[120]⟩⟩
abbrev kB : BE := ⟨⟨#[107]⟩, 2, 1, 7, ⟨#[121]⟩⟩
abbrev kC : BE := ⟨⟨#[107]⟩, 3, 1, 8, ⟨#[122]⟩⟩
abbrev kZ : BE := ⟨⟨#[]⟩, 0, 0, 0, ⟨#[]⟩⟩
theorem p1 : putR [] [] kB = ([kB], 0) := by decide +kernel
theorem p2 : putR [kB] [] kA = ([kA, kB], 0) := by decide +kernel
theorem p3 : putR [kA, kB] [(1, 1)] kC = ([kB, kC], 0) := by decide +kernel
theorem p4 : dropR [kA, kB] [(2, 3)] ⟨#[107]⟩ = ([kA], 0) := by decide +kernel
theorem p5 : putR [] [] kZ = ([], 140) := by decide +kernel
theorem p6 : dropR [] [] ⟨#[107]⟩ = ([], 0) := by decide +kernel
theorem p7 : srt [] (fil ⟨#[107]⟩ [kA, kB]) = [kB, kA] := by decide +kernel
theorem p8 : keysOf [] [kA, kB] = [⟨#[107]⟩] := by decide +kernel
theorem p9 : chkE [kA, kA] = 140 := by decide +kernel
theorem nil2 {f : FuncId} {x : AV} {out : AOut} (h : CallC P G f [bes [], Vec.vec [], x] [] out []) : CallC P G f [nilS, nilS, x] [] out [] := h.args rfl fun j hj => by
  have : j < 3 := hj
  match j, this with
  | 0, _ => exact Sub.nil 5
  | 1, _ => exact Sub.nil 2
  | 2, _ => exact Sub.refl _
theorem sb_1 : CallC P G 12 [nilS, nilS, bel kB] [] (.ret (.tup [bes [kB], int 0])) [] := nil2 (by have h := put_c' [] [] kB (by decide) (by decide); rw [p1] at h; exact h)
theorem sb_2 : CallC P G 12 [bes [kB], nilS, bel kA] [] (.ret (.tup [bes [kA, kB], int 0])) [] := by
  have h := put_c' [kB] [] kA (by decide) (by decide)
  rw [p2] at h
  exact h.args rfl fun j hj => by
    have : j < 3 := hj
    match j, this with
    | 0, _ => exact Sub.refl _
    | 1, _ => exact Sub.nil 2
    | 2, _ => exact Sub.refl _
theorem sb_3 : CallC P G 12 [bes [kA, kB], Vec.vec [(1, 1)], bel kC] [] (.ret (.tup [bes [kB, kC], int 0])) [] := by
  have h := put_c' [kA, kB] [(1, 1)] kC (by decide) (by decide)
  rw [p3] at h
  exact h
theorem sb_4 : CallC P G 9 [bes [kA, kB], Vec.vec [(2, 3)], str ⟨#[107]⟩] [] (.ret (.tup [bes [kA], int 0])) [] := by
  have h := drop_c [kA, kB] [(2, 3)] ⟨#[107]⟩ (by decide) (by decide)
  rw [p4] at h
  exact h
theorem sb_5 : CallC P G 12 [nilS, nilS, bel kZ] [] (.ret (.tup [bes [], int 140])) [] := nil2 (by have h := put_c' [] [] kZ (by decide) (by decide); rw [p5] at h; exact h)
theorem sb_6 : CallC P G 9 [nilS, nilS, str ⟨#[107]⟩] [] (.ret (.tup [bes [], int 0])) [] := nil2 (by have h := drop_c [] [] ⟨#[107]⟩ (by decide) (by decide); rw [p6] at h; exact h)
theorem sb_7 : CallC P G 10 [bes [kA, kB], str ⟨#[107]⟩] [] (.ret (bes [kB, kA])) [] := by
  have h := vals_c [kA, kB] ⟨#[107]⟩ (by decide)
  rw [p7] at h
  exact h
theorem sb_8 : CallC P G 15 [bes [kA, kB]] [] (.ret (strs [⟨#[107]⟩])) [] := keys_c [kA, kB] [⟨#[107]⟩] (by decide) (by decide +kernel) (by rw [p8]) (List.pairwise_singleton _ _)
theorem sb_9 : CallC P G 7 [bes [kA, kA]] [] (.ret (int 140)) [] := by
  have h := check_c [kA, kA] (by decide)
  rw [p9] at h
  exact h
theorem sb_10 : CallC P G 10 [nilS, str ⟨#[107]⟩] [] (.ret (bes [])) [] := by
  have h := vals_c [] ⟨#[107]⟩ (by decide)
  exact h.args rfl fun j hj => by
    have : j < 2 := hj
    match j, this with
    | 0, _ => exact Sub.nil 5
    | 1, _ => exact Sub.refl _
theorem sb_11 : CallC P G 11 [bes [kA, kB], bes [kA, kB]] [] (.ret (bool true)) [] := by have h := rsame_c [kA, kB] [kA, kB] (by decide) (by decide); rw [decide_eq_true rfl] at h; exact h
theorem sb_12 : CallC P G 11 [bes [kA], bes [kA]] [] (.ret (bool true)) [] := by have h := rsame_c [kA] [kA] (by decide) (by decide); rw [decide_eq_true rfl] at h; exact h
theorem sb_13 : CallC P G 11 [bes [kB, kA], bes [kB, kA]] [] (.ret (bool true)) [] := by have h := rsame_c [kB, kA] [kB, kA] (by decide) (by decide); rw [decide_eq_true rfl] at h; exact h
end Go.Bd

/- BINDS, 22: sane, walked. -/
namespace Go.Bd
set_option maxRecDepth 100000
set_option linter.unusedSimpArgs false
set_option linter.unusedVariables false
open Go Go.Am Go.Proofs Go.Seat

theorem sane_w  (h : True) : CallC P G 4 [] [] (AOut.ret (Am.bool true)) [] := by
  have _ := h
  exact callC_of [kc [] (@Go.Bd.bind_c (ByteArray.mk #[107]) (1) (1) (5) (ByteArray.mk #[120])), kc [] (@Go.Bd.bind_c (ByteArray.mk #[107]) (2) (1) (7) (ByteArray.mk #[121])), kc [] (@Go.Bd.sb_1 ), kc [] (@Go.Bd.sb_2 ), kc [] (@Go.Bd.bind_c (ByteArray.mk #[107]) (3) (1) (8) (ByteArray.mk #[122])), kc [] (show CallC P G 12 [AV.sl 5 false [[str (BE.ky kA), int 1, int 1, int 5, str (BE.vl kA)], [str (BE.ky kB), int 2, int 1, int 7, str (BE.vl kB)]], AV.sl 2 true [[int 1, int 1]], AV.agg [str (ByteArray.mk #[107]), int 3, int 1, int 8, str (ByteArray.mk #[122])]] [] (AOut.ret (AV.tup [AV.sl 5 false [[str (BE.ky kB), int 2, int 1, int 7, str (BE.vl kB)], [str (BE.ky kC), int 3, int 1, int 8, str (BE.vl kC)]], int 0])) [] from (CallC.args' (@Go.Bd.sb_3 ) ⟨Sub.refl _, Sub.loose _ _ _, Sub.refl _, trivial⟩)), kc [] (show CallC P G 9 [AV.sl 5 false [[str (BE.ky kA), int 1, int 1, int 5, str (BE.vl kA)], [str (BE.ky kB), int 2, int 1, int 7, str (BE.vl kB)]], AV.sl 2 true [[int 2, int 3]], str (ByteArray.mk #[107])] [] (AOut.ret (AV.tup [AV.sl 5 false [[str (BE.ky kA), int 1, int 1, int 5, str (BE.vl kA)]], int 0])) [] from (CallC.args' (@Go.Bd.sb_4 ) ⟨Sub.refl _, Sub.loose _ _ _, Sub.refl _, trivial⟩)), kc [] (@Go.Bd.sb_5 ), kc [] (@Go.Bd.sb_6 ), kc [] (@Go.Bd.sb_7 ), kc [] (@Go.Bd.sb_8 ), kt (Eq.refl true), kt (Eq.refl true), kc [] (show CallC P G 11 [AV.sl 5 false [[str (BE.ky kA), int 1, int 1, int 5, str (BE.vl kA)], [str (BE.ky kB), int 2, int 1, int 7, str (BE.vl kB)]], AV.sl 5 true [[str (ByteArray.mk #[107]), int 1, int 1, int 5, str (ByteArray.mk #[120])], [str (ByteArray.mk #[107]), int 2, int 1, int 7, str (ByteArray.mk #[121])]]] [] (AOut.ret (Am.bool true)) [] from (CallC.args' (@Go.Bd.sb_11 ) ⟨Sub.refl _, Sub.loose _ _ _, trivial⟩)), kt (Eq.refl true), kt (Eq.refl true), kt (Eq.refl true), ko (Orc.elem [str (BE.ky kB), int 2, int 1, int 7, str (BE.vl kB)]), kp (show (0 : Int) ≤ (0 : Int) ∧ (encs [kB, kC])[Int.toNat 0]? = some [str (BE.ky kB), int 2, int 1, int 7, str (BE.vl kB)] from (⟨by decide, rfl⟩)), kt (Eq.refl true), kt (Eq.refl true), kc [] (show CallC P G 11 [AV.sl 5 false [[str (BE.ky kA), int 1, int 1, int 5, str (BE.vl kA)]], AV.sl 5 true [[str (ByteArray.mk #[107]), int 1, int 1, int 5, str (ByteArray.mk #[120])]]] [] (AOut.ret (Am.bool true)) [] from (CallC.args' (@Go.Bd.sb_12 ) ⟨Sub.refl _, Sub.loose _ _ _, trivial⟩)), kt (Eq.refl true), kt (Eq.refl true), kt (Eq.refl true), kt (Eq.refl true), kc [] (show CallC P G 11 [AV.sl 5 false [[str (BE.ky kB), int 2, int 1, int 7, str (BE.vl kB)], [str (BE.ky kA), int 1, int 1, int 5, str (BE.vl kA)]], AV.sl 5 true [[str (ByteArray.mk #[107]), int 2, int 1, int 7, str (ByteArray.mk #[121])], [str (ByteArray.mk #[107]), int 1, int 1, int 5, str (ByteArray.mk #[120])]]] [] (AOut.ret (Am.bool true)) [] from (CallC.args' (@Go.Bd.sb_13 ) ⟨Sub.refl _, Sub.loose _ _ _, trivial⟩)), kt (Eq.refl true), kt (Eq.refl true), ko (Orc.elem [str (ByteArray.mk #[107])]), kp (show (0 : Int) ≤ (0 : Int) ∧ (sts [ByteArray.mk #[107]])[Int.toNat 0]? = some [str (ByteArray.mk #[107])] from (⟨by decide, rfl⟩)), kt (Eq.refl true), kc [] (@Go.Bd.sb_10 ), kt (Eq.refl true), kc [] (show CallC P G 7 [AV.sl 5 true [[str (ByteArray.mk #[107]), int 1, int 1, int 5, str (ByteArray.mk #[120])], [str (ByteArray.mk #[107]), int 1, int 1, int 5, str (ByteArray.mk #[120])]]] [] (AOut.ret (int 140)) [] from (CallC.args' (@Go.Bd.sb_9 ) ⟨Sub.loose _ _ _, trivial⟩))] (by kernel_rfl)

end Go.Bd

/- BINDS, 40: the statements' arguments as data. -/
namespace Go.Bd
set_option maxRecDepth 100000
set_option linter.unusedSimpArgs false
set_option linter.unusedVariables false
open Go Go.Am Go.Proofs Go.Seat

theorem cz3 : Tryd.prog.cellsOf 3 = 1 := by kernel_rfl
theorem cz9 : Tryd.prog.cellsOf 9 = 1 := by kernel_rfl
theorem cz22 : Tryd.prog.cellsOf 22 = 1 := by kernel_rfl
theorem cz25 : Tryd.prog.cellsOf 24 = 2 := by kernel_rfl
theorem cz27 : Tryd.prog.cellsOf 26 = 5 := by kernel_rfl
noncomputable def cInt : Cod Tryd.prog 3 Int := Cod.int Tryd.underlying3 cz3
noncomputable def cStr : Cod Tryd.prog 9 ByteArray := Cod.str Tryd.underlying9 cz9
noncomputable def cDot : Cod Tryd.prog 24 (Int × Int) := Cod.struct Tryd.underlying24 (by kernel_rfl) (FCod.cons cInt rfl (FCod.cons cInt (by kernel_rfl) FCod.nil)) (fun a => (a.1, a.2.1)) (fun a => [Am.int a.1, Am.int a.2]) (fun _ => rfl) (fun _ => cz25.symm)
abbrev AB := ByteArray × (Int × Int) × Int × ByteArray × Unit
noncomputable def cBE : Cod Tryd.prog 26 BE := Cod.struct Tryd.underlying26 (by kernel_rfl) (FCod.cons cStr rfl (FCod.cons cDot (by kernel_rfl) (FCod.cons cInt (by kernel_rfl) (FCod.cons cStr (by kernel_rfl) FCod.nil))))
  (fun a : AB => ⟨a.1, a.2.1.1, a.2.1.2, a.2.2.1, a.2.2.2.1⟩) enc (fun a : AB => rfl) (fun _ => cz27.symm)
noncomputable def cBinds : Cod Tryd.prog 22 (List BE) := Cod.slice Tryd.underlying22 cz22 (by rw [cz27]; decide) cBE
theorem cBinds_enc (v : List BE) : cBinds.enc v = [bes v] := by
  show [AV.sl (Tryd.prog.cellsOf 26) false (v.map enc)] = [AV.sl 5 false (v.map enc)]
  rw [cz27]
theorem reads_bind {H : Type} {enc : TypeId × Value → H} {W : World} {base : Nat} {v : Value} {d : DataW H} {ps : List MemPlace} (hv : Value.okWide Tryd.prog W .any base 26 v) (h : DataW.Trod enc Tryd.prog W 0 (fun _ => true) true 26 v d ps) : ∃ c : BE, True ∧ Rep (view0 W) (bel c) v := by
  have hagg : ∃ cs, v = .agg cs := by
    unfold Value.okWide at hv
    rw [Tryd.underlying26] at hv
    exact ⟨_, hv.choose_spec.1⟩
  obtain ⟨⟨cs⟩, rfl⟩ := hagg
  obtain ⟨n, hn⟩ := h
  have hn' : DataW.trod enc Tryd.prog W 0 (fun _ => true) true n 26 cs = some (d, ps) := hn
  obtain ⟨o, g, hl, hp⟩ := cBE.rd hn'
  exact ⟨o, trivial, .agg _ _ hl fun j hj => .pure _ _ (hp j (by rw [hl]; exact hj)).1⟩
theorem reads_binds {H : Type} {enc : TypeId × Value → H} {W : World} {base : Nat} {v : Value} {d : DataW H} {ps : List MemPlace} (hv : Value.okWide Tryd.prog W .any base 22 v) (h : DataW.Trod enc Tryd.prog W 0 (fun _ => true) true 22 v d ps) : ∃ l : List BE, l.length ≤ 9223372036854775807 ∧ Rep (view0 W) (bes l) v := by
  obtain ⟨a, h1, h2⟩ := cBinds.one (by kernel_rfl) hv h cBinds_enc
  exact ⟨a, h1.1, h2⟩
end Go.Bd

/- BINDS, 24: plain: Values and Keys of both packages are one. -/
namespace Go.Bd
set_option maxRecDepth 100000
set_option linter.unusedSimpArgs false
set_option linter.unusedVariables false
open Go Go.Am Go.Proofs Go.Seat

/-! Keys -/
abbrev Asc (l : List ByteArray) : Prop := l.Pairwise fun a b => ltS a b = true
theorem split_asc {l : List ByteArray} (h : Asc l) (k : ByteArray) : (∀ b ∈ l.take (plcK k l), ltS b k = true) ∧ ∀ b ∈ l.drop (plcK k l), b = k ∨ ltS k b = true := by
  induction l with
  | nil => simp
  | cons a t ih =>
    rw [Asc, List.pairwise_cons] at h
    obtain ⟨i1, i2⟩ := ih h.2
    cases hm : ltS a k with
    | true =>
      have : plcK k (a :: t) = plcK k t + 1 := by simp [plcK, hm]
      rw [this, List.take_succ_cons, List.drop_succ_cons]
      refine ⟨fun b hb => ?_, i2⟩
      rcases List.mem_cons.1 hb with rfl | hb
      · exact hm
      · exact i1 b hb
    | false =>
      have : plcK k (a :: t) = 0 := by simp [plcK, hm]
      rw [this]
      have ha : a = k ∨ ltS k a = true := by
        rcases ltS_tri a k with g | g | g
        · rw [hm] at g; cases g
        · exact .inl g
        · exact .inr g
      refine ⟨by simp, fun b hb => ?_⟩
      rcases List.mem_cons.1 hb with rfl | hb
      · exact ha
      · have hz := h.1 b hb
        rcases ha with rfl | ha
        · exact .inr hz
        · exact .inr (ltS_trans ha hz)
theorem insK_asc {l : List ByteArray} (h : Asc l) (k : ByteArray) : Asc (insK k l) ∧ ∀ a, a ∈ insK k l ↔ a ∈ l ∨ a = k := by
  obtain ⟨h1, h2⟩ := split_asc h k
  unfold insK
  by_cases he : l[plcK k l]? = some k
  · rw [if_pos he]
    exact ⟨h, fun a => ⟨.inl, fun h => h.elim id fun e => e ▸ List.mem_of_getElem? he⟩⟩
  · rw [if_neg he]
    have h3 : ∀ b ∈ l.drop (plcK k l), ltS k b = true := fun b hb => by
      rcases h2 b hb with rfl | g
      · exfalso
        have hl : Asc (l.drop (plcK b l)) := h.sublist (List.drop_sublist _ _)
        cases hd : l.drop (plcK b l) with
        | nil => rw [hd] at hb; cases hb
        | cons a t =>
          have e : l[plcK b l]? = some a := by
            have := congrArg (fun x => x[0]?) hd
            simpa [List.getElem?_drop] using this
          rw [hd] at hb hl
          rcases List.mem_cons.1 hb with rfl | hb
          · exact he e
          · rw [Asc, List.pairwise_cons] at hl
            have g1 := hl.1 b hb
            rcases h2 a (by rw [hd]; exact List.mem_cons_self ..) with rfl | g2
            · exact he e
            · rw [ltS_asymm g1] at g2; cases g2
      · exact g
    refine ⟨?_, fun a => ?_⟩
    · rw [Asc, List.append_assoc, List.singleton_append, List.pairwise_append, List.pairwise_cons]
      refine ⟨h.sublist (List.take_sublist _ _), ⟨h3, h.sublist (List.drop_sublist _ _)⟩, fun a ha b hb => ?_⟩
      rcases List.mem_cons.1 hb with rfl | hb
      · exact h1 a ha
      · exact ltS_trans (h1 a ha) (h3 b hb)
    · have : a ∈ l ↔ a ∈ l.take (plcK k l) ∨ a ∈ l.drop (plcK k l) := by rw [← List.mem_append, List.take_append_drop]
      rw [this, List.append_assoc, List.mem_append, List.singleton_append, List.mem_cons]
      constructor
      · rintro (g | g | g)
        · exact .inl (.inl g)
        · exact .inr g
        · exact .inl (.inr g)
      · rintro ((g | g) | g)
        · exact .inl g
        · exact .inr (.inr g)
        · exact .inr (.inl g)
theorem keyR_asc : ∀ (v : List BE) {l : List ByteArray}, Asc l → Asc (keyR l v) ∧ ∀ a, a ∈ keyR l v ↔ a ∈ l ∨ ∃ b ∈ v, b.ky = a
  | [], l, h => ⟨h, by simp [keyR]⟩
  | b :: t, l, h => by
    obtain ⟨h1, h2⟩ := insK_asc h b.ky
    obtain ⟨i1, i2⟩ := keyR_asc t h1
    refine ⟨i1, fun a => ?_⟩
    rw [keyR, i2, h2]
    simp only [List.mem_cons, exists_eq_or_imp]
    constructor
    · rintro ((g | g) | g)
      · exact .inl g
      · exact .inr (.inl g.symm)
      · exact .inr (.inr g)
    · rintro (g | g | g)
      · exact .inl (.inl g)
      · exact .inl (.inr g.symm)
      · exact .inr g
theorem asc_nodup {l : List ByteArray} (h : Asc l) : l.Nodup := by
  rw [List.nodup_iff_pairwise_ne]
  exact h.imp fun {a b} g e => by rw [e, ltS_irrefl] at g; cases g
theorem keys_perm (v : List BE) : (keyR [] v).Perm (keysOf [] v) := by
  obtain ⟨h1, h2⟩ := keyR_asc v (l := []) List.Pairwise.nil
  exact (List.perm_ext_iff_of_nodup (asc_nodup h1) (keysOf_nodup v List.nodup_nil)).2 fun a => by rw [h2, keysOf_mem]
theorem keys_ok (v : List BE) (hv : v.length ≤ 1000) (hk : ∀ b ∈ v, b.ky.size ≤ maxLen) : CallC P G 15 [bes v] [] (.ret (strs (keyR [] v))) [] := keys_c v _ hv hk (keys_perm v) (keyR_asc v List.Pairwise.nil).1
theorem keyR_len (v : List BE) : (keyR [] v).length ≤ v.length := by
  rw [(keys_perm v).length_eq]
  have := keysOf_len v []
  simpa using this
end Go.Bd

/- BINDS, 26: plain: what is put and dropped in either order. -/
namespace Go.Bd
set_option maxRecDepth 100000
set_option linter.unusedSimpArgs false
set_option linter.unusedVariables false
open Go Go.Am Go.Proofs Go.Seat

theorem chk_ok {v : List BE} : chkE v = 0 ↔ Map v := by
  rw [← ok_iff]; unfold chkE
  cases okB v <;> simp
theorem put_mk {l : List BE} {c : List Vec.D} {b : BE} (h0 : Map l) (h1 : Vec.checkE c = 0) (h2 : mayB l c b = true) : putR l c b = (insB b (rest l c b.ky), 0) := by
  unfold putR
  rw [if_pos (chk_ok.2 h0), if_pos h1, if_pos h2]
theorem drop_mk {l : List BE} {c : List Vec.D} {k : ByteArray} (h0 : Map l) (h1 : Vec.checkE c = 0) : dropR l c k = (rest l c k, 0) := by
  unfold dropR
  rw [if_pos (chk_ok.2 h0), if_pos h1]
end Go.Bd

/- VECTOR, 2: what the reference's Join, Meet, Compare and With do. -/
namespace Go.Vec
set_option maxRecDepth 100000
set_option linter.unusedSimpArgs false
set_option linter.unusedVariables false
open Go Go.Am Go.Proofs Go.Seat

def check2E (a b : List D) : Int := if checkE a = 0 then checkE b else checkE a

theorem check2_w (a b : List D) (ha : a.length ≤ 1000000000) (hb : b.length ≤ 1000000000) (h : (((checkE a = (0 : Int)) → (checkE b : Int) = (check2E a b)) ∧ ((¬checkE a = (0 : Int)) → (checkE a : Int) = (check2E a b)))) : CallC P G 57 [vec a, vec b] [] (AOut.ret (int (check2E a b))) [] := by
  have hz0 := (@Go.Vec.check_c (a) (by omega))
  by_cases c1 : (checkE a = (0 : Int))
  · have h := h.1 c1
    have e1 := h
    exact callC_out (Sub.int_eq e1) [kc [] hz0, kf (show (checkE a != 0) = false from (congrArg Bool.not (beq_iff_eq.2 c1))), kc [] (@Go.Vec.check_c (b) (by omega))] (by kernel_rfl)
  · have h := h.2 c1
    have e1 := h
    exact callC_out (Sub.int_eq e1) [kc [] hz0, kt (show (checkE a != 0) = true from (congrArg Bool.not (beq_eq_false_iff_ne.2 c1)))] (by kernel_rfl)

theorem check2_c (a b : List D) (ha : a.length ≤ 1000000000) (hb : b.length ≤ 1000000000) : CallC P G 57 [vec a, vec b] [] (.ret (int (check2E a b))) [] :=
  check2_w a b ha hb (by unfold check2E; exact ⟨fun h => by rw [if_pos h], fun h => by rw [if_neg h]⟩)

/-! Most -/
/-! devices -/
end Go.Vec

/- VECTOR, 4: the program's merging: rounds over the pairs of two vectors. -/
namespace Go.Vec
set_option maxRecDepth 100000
set_option linter.unusedSimpArgs false
set_option linter.unusedVariables false
open Go Go.Am Go.Proofs Go.Seat

def gmax (x y : Int) : Int := if y > x then y else x
def rl (f : Nat) : AV := .lit (.func (.func f) #[] #[])

theorem gr_w (d x y : Int) (h : True) : CallC P G 106 [AV.agg [int d, int x, int y]] [] (AOut.ret (int (gmax x y))) [] := by
  have _ := h
  exact callC_of [] (by kernel_rfl)

theorem gr_c (d x y : Int) : CallC P G 106 [.agg [int d, int x, int y]] [] (.ret (int (gmax x y))) [] := gr_w d x y trivial

noncomputable def jrng : AObj := .rng .ready none (slots 35 [(3, .ptr 3 0), (6, .ptr 4 0)]) #[20] (asgAt P 41 0) (rbodyAt P 41 0)
noncomputable def q0 (f : Nat) (A B : List D) : List AObj := [jrng, .box [vec A], .box [vec B], .box [rl f], .box [nilS]]
noncomputable def q1 (f : Nat) (A B : List D) (g : Nat) (v : List D) : List AObj := [jrng, .box [vec A], .box [vec B], .box [rl f], .box [.own 7 g 0 v.length], .gone, .gone, .arr g 2 false (encs v)]

def Y0 (f : Nat) (tk : Int → Int → Int) (A B : List D) (d x y : Int) : Prop :=
  YieldC P G 0 [.agg [int d, int x, int y]] (q0 f A B ++ [.box [int d, int x, int y]]) true (if tk x y > 0 then q1 f A B 0 [(d, tk x y)] else q0 f A B ++ [.box [int d, int x, int y]])
def Y1 (f : Nat) (tk : Int → Int → Int) (A B v : List D) (g : Nat) (d x y : Int) : Prop :=
  YieldC P G 0 [.agg [int d, int x, int y]] (q1 f A B g v ++ [.box [int d, int x, int y]]) true (if tk x y > 0 then q1 f A B (g + 1) (v ++ [(d, tk x y)]) ++ [.box [int d, int x, int y]] else q1 f A B g v ++ [.box [int d, int x, int y]])

theorem gy0_w (A B : List D) (d x y : Int) (b : Bool) (H' : List AObj) (h : (((gmax x y > (0 : Int)) → (true = b) ∧ ([jrng, AObj.box [AV.sl 2 false (encs A)], AObj.box [AV.sl 2 false (encs B)], AObj.box [AV.lit (Value.func (Fn.func 106) (Array.mk []) (Array.mk []))], AObj.box [AV.own 7 0 0 1], AObj.box [int d, int x, int y], AObj.box [int d, int x, int y], AObj.arr 0 2 false (encs [(d, gmax x y)])] = H')) ∧ ((¬gmax x y > (0 : Int)) → (true = b) ∧ ([jrng, AObj.box [AV.sl 2 false (encs A)], AObj.box [AV.sl 2 false (encs B)], AObj.box [AV.lit (Value.func (Fn.func 106) (Array.mk []) (Array.mk []))], AObj.box [nilS], AObj.box [int d, int x, int y]] = H')))) : YieldC P G 0 [AV.agg [int d, int x, int y]] (q0 106 A B ++ [AObj.box [int d, int x, int y]]) b H' := by
  have hz0 := (@Go.Vec.gr_c (d) (x) (y))
  by_cases c1 : (gmax x y > (0 : Int))
  · have h := h.1 c1
    obtain ⟨e1, e2⟩ := h
    exact YieldC.to ((show YieldC P G 0 [AV.agg [int d, int x, int y]] (q0 106 A B ++ [AObj.box [int d, int x, int y]]) true [jrng, AObj.box [AV.sl 2 false (encs A)], AObj.box [AV.sl 2 false (encs B)], AObj.box [AV.lit (Value.func (Fn.func 106) (Array.mk []) (Array.mk []))], AObj.box [AV.own 7 0 0 1], AObj.box [int d, int x, int y], AObj.box [int d, int x, int y], AObj.arr 0 2 false (encs [(d, gmax x y)])] from yieldC_of (fun _ => [kc [] hz0, kt (decide_eq_true c1), kp (show [[int d, int (gmax x y)]] ≠ [] from (by simp)), kp (show 16 ≤ 140737488355328 from (by omega))]) (fun _ => by kernel_rfl))) e1 e2
  · have h := h.2 c1
    obtain ⟨e1, e2⟩ := h
    exact YieldC.to ((show YieldC P G 0 [AV.agg [int d, int x, int y]] (q0 106 A B ++ [AObj.box [int d, int x, int y]]) true [jrng, AObj.box [AV.sl 2 false (encs A)], AObj.box [AV.sl 2 false (encs B)], AObj.box [AV.lit (Value.func (Fn.func 106) (Array.mk []) (Array.mk []))], AObj.box [nilS], AObj.box [int d, int x, int y]] from yieldC_of (fun _ => [kc [] hz0, kf (decide_eq_false c1)]) (fun _ => by kernel_rfl))) e1 e2

theorem gy1_w (A B v : List D) (g : Nat) (d x y : Int) (b : Bool) (H' : List AObj) (hv : v.length ≤ 3000000000) (h : (((gmax x y > (0 : Int)) → (true = b) ∧ ([jrng, AObj.box [AV.sl 2 false (encs A)], AObj.box [AV.sl 2 false (encs B)], AObj.box [AV.lit (Value.func (Fn.func 106) (Array.mk []) (Array.mk []))], AObj.box [AV.own 7 (g + 1) 0 (List.length (v ++ [(d, gmax x y)]))], AObj.gone, AObj.gone, AObj.arr (g + 1) 2 false (encs (v ++ [(d, gmax x y)])), AObj.box [int d, int x, int y]] = H')) ∧ ((¬gmax x y > (0 : Int)) → (true = b) ∧ ([jrng, AObj.box [AV.sl 2 false (encs A)], AObj.box [AV.sl 2 false (encs B)], AObj.box [AV.lit (Value.func (Fn.func 106) (Array.mk []) (Array.mk []))], AObj.box [AV.own 7 g 0 (List.length v)], AObj.gone, AObj.gone, AObj.arr g 2 false (encs v), AObj.box [int d, int x, int y]] = H')))) : YieldC P G 0 [AV.agg [int d, int x, int y]] (q1 106 A B g v ++ [AObj.box [int d, int x, int y]]) b H' := by
  have hz0 := (@Go.Vec.gr_c (d) (x) (y))
  by_cases c1 : (gmax x y > (0 : Int))
  · have h := h.1 c1
    obtain ⟨e1, e2⟩ := h
    exact YieldC.to ((show YieldC P G 0 [AV.agg [int d, int x, int y]] (q1 106 A B g v ++ [AObj.box [int d, int x, int y]]) true [jrng, AObj.box [AV.sl 2 false (encs A)], AObj.box [AV.sl 2 false (encs B)], AObj.box [AV.lit (Value.func (Fn.func 106) (Array.mk []) (Array.mk []))], AObj.box [AV.own 7 (g + 1) 0 (List.length (v ++ [(d, gmax x y)]))], AObj.gone, AObj.gone, AObj.arr (g + 1) 2 false (encs (v ++ [(d, gmax x y)])), AObj.box [int d, int x, int y]] from yieldC_of (fun _ => [kc [] hz0, kt (decide_eq_true c1), ko (Orc.hp (some 33) (AV.own 7 (g + 1) 0 (List.length (v ++ [(d, gmax x y)]))) [AObj.rng LoopState.busy none (slots 35 [(3, AV.ptr 3 0), (6, AV.ptr 4 0)]) (Array.mk [20]) (asgAt P 41 0) (rbodyAt P 41 0), AObj.box [AV.sl 2 false (encs A)], AObj.box [AV.sl 2 false (encs B)], AObj.box [AV.lit (Value.func (Fn.func 106) (Array.mk []) (Array.mk []))], AObj.box [AV.own 7 g 0 (List.length v)], AObj.gone, AObj.gone, AObj.arr (g + 1) 2 false (encs (v ++ [(d, gmax x y)])), AObj.box [int d, int x, int y], AObj.box [int d, int x, int y]]), kp (show Am.Sub (AV.own 7 (g + 1) 0 (List.length v + 1)) (AV.own 7 (g + 1) 0 (List.length (v ++ [(d, gmax x y)]))) from (Sub.of_eq (by simp [Go.Vec.encs_length, Go.Vec.encs_ids]))), kp (show Am.HSub [AObj.rng LoopState.busy none (slots 35 [(3, AV.ptr 3 0), (6, AV.ptr 4 0)]) (Array.mk [20]) (asgAt P 41 0) (rbodyAt P 41 0), AObj.box [AV.sl 2 false (encs A)], AObj.box [AV.sl 2 false (encs B)], AObj.box [AV.lit (Value.func (Fn.func 106) (Array.mk []) (Array.mk []))], AObj.box [AV.own 7 g 0 (List.length v)], AObj.gone, AObj.gone, AObj.arr (g + 1) 2 false (encs v ++ [[int d, int (gmax x y)]]), AObj.box [int d, int x, int y], AObj.box [int d, int x, int y]] [AObj.rng LoopState.busy none (slots 35 [(3, AV.ptr 3 0), (6, AV.ptr 4 0)]) (Array.mk [20]) (asgAt P 41 0) (rbodyAt P 41 0), AObj.box [AV.sl 2 false (encs A)], AObj.box [AV.sl 2 false (encs B)], AObj.box [AV.lit (Value.func (Fn.func 106) (Array.mk []) (Array.mk []))], AObj.box [AV.own 7 g 0 (List.length v)], AObj.gone, AObj.gone, AObj.arr (g + 1) 2 false (encs (v ++ [(d, gmax x y)])), AObj.box [int d, int x, int y], AObj.box [int d, int x, int y]] from (⟨.inl rfl, .inl rfl, .inl rfl, .inl rfl, .inl rfl, .inl rfl, .inl rfl, .inl (by simp only [Go.Vec.encs_append, Go.Vec.encs_one]), .inl rfl, .inl rfl, trivial⟩)), kp (show g = g from (rfl)), kp (show List.length v = List.length (encs v) from ((Go.Vec.encs_length _).symm)), kp (show (List.length v + 1) * 16 ≤ 140737488355328 from (by omega)), kp (show ∀ (x_1 : List AV), x_1 ∈ encs (v ++ [(d, gmax x y)]) → AV.idsInL [] x_1 = true from (Go.Vec.encs_ids _))]) (fun _ => by kernel_rfl))) e1 e2
  · have h := h.2 c1
    obtain ⟨e1, e2⟩ := h
    exact YieldC.to ((show YieldC P G 0 [AV.agg [int d, int x, int y]] (q1 106 A B g v ++ [AObj.box [int d, int x, int y]]) true [jrng, AObj.box [AV.sl 2 false (encs A)], AObj.box [AV.sl 2 false (encs B)], AObj.box [AV.lit (Value.func (Fn.func 106) (Array.mk []) (Array.mk []))], AObj.box [AV.own 7 g 0 (List.length v)], AObj.gone, AObj.gone, AObj.arr g 2 false (encs v), AObj.box [int d, int x, int y]] from yieldC_of (fun _ => [kc [] hz0, kf (decide_eq_false c1), kp (show ∀ (x : List AV), x ∈ encs v → AV.idsInL [] x = true from (Go.Vec.encs_ids _))]) (fun _ => by kernel_rfl))) e1 e2

theorem gy0 (A B : List D) (d x y : Int) : Y0 106 gmax A B d x y := by
  unfold Y0
  by_cases h : gmax x y > 0
  · rw [if_pos h]
    exact YieldC.heapSub (gy0_w A B d x y true _ ⟨fun _ => ⟨rfl, rfl⟩, fun h' => absurd h h'⟩) ⟨.inl rfl, .inl rfl, .inl rfl, .inl rfl, .inl rfl, .inr trivial, .inr trivial, .inl rfl, trivial⟩
  · rw [if_neg h]
    exact gy0_w A B d x y true _ ⟨fun h' => absurd h' h, fun _ => ⟨rfl, rfl⟩⟩
theorem gy1 (A B v : List D) (g : Nat) (d x y : Int) (hv : v.length ≤ 3000000000) : Y1 106 gmax A B v g d x y := by
  unfold Y1
  by_cases h : gmax x y > 0
  · rw [if_pos h]
    exact gy1_w A B v g d x y true _ hv ⟨fun _ => ⟨rfl, rfl⟩, fun h' => absurd h h'⟩
  · rw [if_neg h]
    exact gy1_w A B v g d x y true _ hv ⟨fun h' => absurd h' h, fun _ => ⟨rfl, rfl⟩⟩

theorem pairs_w (a b : List D) (h : True) : CallC P G 58 [vec a, vec b] [] (AOut.ret (AV.fn (Fn.func 69) [] [AV.ptr 0 0, AV.ptr 1 0])) [AObj.box [vec a], AObj.box [vec b]] := by
  have _ := h
  exact callC_of [] (by kernel_rfl)

theorem pairs_c (a b : List D) : CallC P G 58 [vec a, vec b] [] (.ret (.fn (.func 69) [] [.ptr 0 0, .ptr 1 0])) [.box [vec a], .box [vec b]] := pairs_w a b trivial

noncomputable def plSt0 (f : Nat) (A B : List D) : St := { env := slots 91 [(0, .yl 0), (1, .ptr 1 0), (2, .ptr 2 0)], H := q0 f A B }
noncomputable def plSt1 (f : Nat) (A B : List D) (g : Nat) (v : List D) : St := { env := slots 91 [(0, .yl 0), (1, .ptr 1 0), (2, .ptr 2 0)], H := q1 f A B g v }

theorem pl_w0 (f : Nat) (tk : Int → Int → Int) (A B : List D) (hy : ∀ A B d x y, YieldC P G 0 [.agg [int d, int x, int y]] (q0 f A B ++ [.box [int d, int x, int y]]) true (if tk x y > 0 then q1 f A B 0 [(d, tk x y)] else q0 f A B ++ [.box [int d, int x, int y]])) (hA : A.length ≤ 1000000000) (hB : B.length ≤ 1000000000) (ex : AEx) (s' : St) (h : ((((↑(List.length A) : Int) > (0 : Int)) → ((((↑(List.length B) : Int) = (0 : Int)) → (∃ x3 : D, (A[0]? = some x3) ∧ (((tk (Prod.snd x3) 0 > (0 : Int)) → RunL P G none 5 (loopAt P 69 0) (St.mk (slots 91 [(0, AV.yl 0), (1, AV.ptr 1 0), (2, AV.ptr 2 0)]) [jrng, AObj.box [AV.sl 2 false (encs (List.drop 1 A))], AObj.box [AV.sl 2 false (encs B)], AObj.box [AV.lit (Value.func (Fn.func f) (Array.mk []) (Array.mk []))], AObj.box [AV.own 7 0 0 1], AObj.gone, AObj.gone, AObj.arr 0 2 false [[int (Prod.fst x3), int (tk (Prod.snd x3) 0)]]] []) ex s') ∧ ((¬tk (Prod.snd x3) 0 > (0 : Int)) → RunL P G none 5 (loopAt P 69 0) (St.mk (slots 91 [(0, AV.yl 0), (1, AV.ptr 1 0), (2, AV.ptr 2 0)]) [jrng, AObj.box [AV.sl 2 false (encs (List.drop 1 A))], AObj.box [AV.sl 2 false (encs B)], AObj.box [AV.lit (Value.func (Fn.func f) (Array.mk []) (Array.mk []))], AObj.box [nilS]] []) ex s')))) ∧ ((¬(↑(List.length B) : Int) = (0 : Int)) → (∃ x6 : D, (A[0]? = some x6) ∧ (∃ x8 : D, (B[0]? = some x8) ∧ (((Prod.fst x6 < Prod.fst x8) → (((tk (Prod.snd x6) 0 > (0 : Int)) → RunL P G none 5 (loopAt P 69 0) (St.mk (slots 91 [(0, AV.yl 0), (1, AV.ptr 1 0), (2, AV.ptr 2 0)]) [jrng, AObj.box [AV.sl 2 false (encs (List.drop 1 A))], AObj.box [AV.sl 2 false (encs B)], AObj.box [AV.lit (Value.func (Fn.func f) (Array.mk []) (Array.mk []))], AObj.box [AV.own 7 0 0 1], AObj.gone, AObj.gone, AObj.arr 0 2 false [[int (Prod.fst x6), int (tk (Prod.snd x6) 0)]]] []) ex s') ∧ ((¬tk (Prod.snd x6) 0 > (0 : Int)) → RunL P G none 5 (loopAt P 69 0) (St.mk (slots 91 [(0, AV.yl 0), (1, AV.ptr 1 0), (2, AV.ptr 2 0)]) [jrng, AObj.box [AV.sl 2 false (encs (List.drop 1 A))], AObj.box [AV.sl 2 false (encs B)], AObj.box [AV.lit (Value.func (Fn.func f) (Array.mk []) (Array.mk []))], AObj.box [nilS]] []) ex s'))) ∧ ((¬Prod.fst x6 < Prod.fst x8) → (((Prod.fst x8 < Prod.fst x6) → (((tk 0 (Prod.snd x8) > (0 : Int)) → RunL P G none 5 (loopAt P 69 0) (St.mk (slots 91 [(0, AV.yl 0), (1, AV.ptr 1 0), (2, AV.ptr 2 0)]) [jrng, AObj.box [AV.sl 2 false (encs A)], AObj.box [AV.sl 2 false (encs (List.drop 1 B))], AObj.box [AV.lit (Value.func (Fn.func f) (Array.mk []) (Array.mk []))], AObj.box [AV.own 7 0 0 1], AObj.gone, AObj.gone, AObj.arr 0 2 false [[int (Prod.fst x8), int (tk 0 (Prod.snd x8))]]] []) ex s') ∧ ((¬tk 0 (Prod.snd x8) > (0 : Int)) → RunL P G none 5 (loopAt P 69 0) (St.mk (slots 91 [(0, AV.yl 0), (1, AV.ptr 1 0), (2, AV.ptr 2 0)]) [jrng, AObj.box [AV.sl 2 false (encs A)], AObj.box [AV.sl 2 false (encs (List.drop 1 B))], AObj.box [AV.lit (Value.func (Fn.func f) (Array.mk []) (Array.mk []))], AObj.box [nilS]] []) ex s'))) ∧ ((¬Prod.fst x8 < Prod.fst x6) → (((tk (Prod.snd x6) (Prod.snd x8) > (0 : Int)) → RunL P G none 5 (loopAt P 69 0) (St.mk (slots 91 [(0, AV.yl 0), (1, AV.ptr 1 0), (2, AV.ptr 2 0)]) [jrng, AObj.box [AV.sl 2 false (encs (List.drop 1 A))], AObj.box [AV.sl 2 false (encs (List.drop 1 B))], AObj.box [AV.lit (Value.func (Fn.func f) (Array.mk []) (Array.mk []))], AObj.box [AV.own 7 0 0 1], AObj.gone, AObj.gone, AObj.arr 0 2 false [[int (Prod.fst x6), int (tk (Prod.snd x6) (Prod.snd x8))]]] []) ex s') ∧ ((¬tk (Prod.snd x6) (Prod.snd x8) > (0 : Int)) → RunL P G none 5 (loopAt P 69 0) (St.mk (slots 91 [(0, AV.yl 0), (1, AV.ptr 1 0), (2, AV.ptr 2 0)]) [jrng, AObj.box [AV.sl 2 false (encs (List.drop 1 A))], AObj.box [AV.sl 2 false (encs (List.drop 1 B))], AObj.box [AV.lit (Value.func (Fn.func f) (Array.mk []) (Array.mk []))], AObj.box [nilS]] []) ex s'))))))))))) ∧ ((¬(↑(List.length A) : Int) > (0 : Int)) → ((((↑(List.length B) : Int) > (0 : Int)) → (∃ x19 : D, (B[0]? = some x19) ∧ (((tk 0 (Prod.snd x19) > (0 : Int)) → RunL P G none 5 (loopAt P 69 0) (St.mk (slots 91 [(0, AV.yl 0), (1, AV.ptr 1 0), (2, AV.ptr 2 0)]) [jrng, AObj.box [AV.sl 2 false (encs A)], AObj.box [AV.sl 2 false (encs (List.drop 1 B))], AObj.box [AV.lit (Value.func (Fn.func f) (Array.mk []) (Array.mk []))], AObj.box [AV.own 7 0 0 1], AObj.gone, AObj.gone, AObj.arr 0 2 false [[int (Prod.fst x19), int (tk 0 (Prod.snd x19))]]] []) ex s') ∧ ((¬tk 0 (Prod.snd x19) > (0 : Int)) → RunL P G none 5 (loopAt P 69 0) (St.mk (slots 91 [(0, AV.yl 0), (1, AV.ptr 1 0), (2, AV.ptr 2 0)]) [jrng, AObj.box [AV.sl 2 false (encs A)], AObj.box [AV.sl 2 false (encs (List.drop 1 B))], AObj.box [AV.lit (Value.func (Fn.func f) (Array.mk []) (Array.mk []))], AObj.box [nilS]] []) ex s')))) ∧ ((¬(↑(List.length B) : Int) > (0 : Int)) → (AEx.exit 0 = ex) ∧ (St.mk (slots 91 []) [jrng, AObj.box [AV.sl 2 false (encs A)], AObj.box [AV.sl 2 false (encs B)], AObj.box [AV.lit (Value.func (Fn.func f) (Array.mk []) (Array.mk []))], AObj.box [nilS]] [] = s')))))) : RunL P G none 5 (loopAt P 69 0) (plSt0 f A B) ex s' := by
  have hz0 : Am.Sub (int (↑(List.length (encs A)) : Int)) (int (↑(List.length A) : Int)) := (Sub.of_eq (by simp only [Go.Vec.encs_length, Int.toNat_natCast]))
  by_cases c1 : ((↑(List.length A) : Int) > (0 : Int))
  · have h := h.1 c1
    have hz1 : Am.Sub (int (↑(List.length (encs B)) : Int)) (int (↑(List.length B) : Int)) := (Sub.of_eq (by simp only [Go.Vec.encs_length, Int.toNat_natCast]))
    by_cases c2 : ((↑(List.length B) : Int) = (0 : Int))
    · have h := h.1 c2
      obtain ⟨x3, o4, h⟩ := h
      have hz2 : (0 : Int) ≤ (0 : Int) ∧ (encs A)[Int.toNat 0]? = some (enc x3) := (el_nat o4)
      have hz3 : Am.Sub (AV.sl 2 false (List.drop 1 (List.take (Int.toNat (↑(List.length (encs A)) : Int)) (encs A)))) (AV.sl 2 false (encs (List.drop 1 A))) := (Sub.of_eq (by simp only [Go.Vec.encs_length, Go.Vec.encs_drop, Go.Vec.encs_take, Int.toNat_natCast, List.take_length]))
      have hz4 : (0 : Int) ≤ (1 : Int) ∧ (1 : Int) ≤ (↑(List.length (encs A)) : Int) ∧ (↑(List.length (encs A)) : Int) ≤ (↑(List.length (encs A)) : Int) := (by rw [Go.Vec.encs_length]; omega)
      by_cases c5 : (tk (Prod.snd x3) 0 > (0 : Int))
      · have h := h.1 c5
        exact loop_next [kv 6 hz0, kt (decide_eq_true c1), kt (Eq.refl true), kv 32 hz1, kt (beq_iff_eq.2 c2), kt (Eq.refl true), ko (Orc.elem (enc x3)), ko (Orc.elem (enc x3)), kp hz2, kp hz2, kv 60 hz3, ko (Orc.call [] (AOut.ret (Am.bool true)) (q1 f (List.drop 1 A) B 0 [(Prod.fst x3, tk (Prod.snd x3) 0)])), kp hz4, kp (show YieldC P G 0 [AV.agg [int (Prod.fst x3), int (Prod.snd x3), int 0]] [jrng, AObj.box [AV.sl 2 false (encs (List.drop 1 A))], AObj.box [AV.sl 2 false (encs B)], AObj.box [AV.lit (Value.func (Fn.func f) (Array.mk []) (Array.mk []))], AObj.box [nilS], AObj.box [int (Prod.fst x3), int (Prod.snd x3), int 0]] true [jrng, AObj.box [AV.sl 2 false (encs (List.drop 1 A))], AObj.box [AV.sl 2 false (encs B)], AObj.box [AV.lit (Value.func (Fn.func f) (Array.mk []) (Array.mk []))], AObj.box [AV.own 7 0 0 1], AObj.gone, AObj.gone, AObj.arr 0 2 false [[int (Prod.fst x3), int (tk (Prod.snd x3) 0)]]] from (by have h0 := (@hy (List.drop 1 A) (B) (Prod.fst x3) (Prod.snd x3) (0)); simp only [if_pos c5] at h0; exact h0)), kf (Eq.refl false)] (others 91 [0, 1, 2]) 8 h (by kernel_rfl)
      · have h := h.2 c5
        exact loop_next [kv 6 hz0, kt (decide_eq_true c1), kt (Eq.refl true), kv 32 hz1, kt (beq_iff_eq.2 c2), kt (Eq.refl true), ko (Orc.elem (enc x3)), ko (Orc.elem (enc x3)), kp hz2, kp hz2, kv 60 hz3, ko (Orc.call [] (AOut.ret (Am.bool true)) (q0 f (List.drop 1 A) B ++ [AObj.box [int (Prod.fst x3), int (Prod.snd x3), int 0]])), kp hz4, kp (show YieldC P G 0 [AV.agg [int (Prod.fst x3), int (Prod.snd x3), int 0]] [jrng, AObj.box [AV.sl 2 false (encs (List.drop 1 A))], AObj.box [AV.sl 2 false (encs B)], AObj.box [AV.lit (Value.func (Fn.func f) (Array.mk []) (Array.mk []))], AObj.box [nilS], AObj.box [int (Prod.fst x3), int (Prod.snd x3), int 0]] true [jrng, AObj.box [AV.sl 2 false (encs (List.drop 1 A))], AObj.box [AV.sl 2 false (encs B)], AObj.box [AV.lit (Value.func (Fn.func f) (Array.mk []) (Array.mk []))], AObj.box [nilS], AObj.box [int (Prod.fst x3), int (Prod.snd x3), int 0]] from (by have h0 := (@hy (List.drop 1 A) (B) (Prod.fst x3) (Prod.snd x3) (0)); simp only [if_neg c5] at h0; exact h0)), kf (Eq.refl false)] (others 91 [0, 1, 2]) 5 h (by kernel_rfl)
    · have h := h.2 c2
      obtain ⟨x6, o7, h⟩ := h
      have hz7 : (0 : Int) ≤ (0 : Int) ∧ (encs A)[Int.toNat 0]? = some (enc x6) := (el_nat o7)
      obtain ⟨x8, o9, h⟩ := h
      have hz8 : (0 : Int) ≤ (0 : Int) ∧ (encs B)[Int.toNat 0]? = some (enc x8) := (el_nat o9)
      by_cases c10 : (Prod.fst x6 < Prod.fst x8)
      · have h := h.1 c10
        by_cases c11 : (tk (Prod.snd x6) 0 > (0 : Int))
        · have h := h.1 c11
          exact loop_next [kv 6 hz0, kt (decide_eq_true c1), kt (Eq.refl true), kv 32 hz1, kf (beq_eq_false_iff_ne.2 c2), kv 36 hz0, kt (decide_eq_true c1), ko (Orc.elem (enc x6)), ko (Orc.elem (enc x8)), kp hz7, kp hz8, kt (decide_eq_true c10), ko (Orc.elem (enc x6)), ko (Orc.elem (enc x6)), kp hz7, kp hz7, kv 60 (show Am.Sub (AV.sl 2 false (List.drop 1 (List.take (Int.toNat (↑(List.length (encs A)) : Int)) (encs A)))) (AV.sl 2 false (encs (List.drop 1 A))) from (Sub.of_eq (by simp only [Go.Vec.encs_length, Go.Vec.encs_drop, Go.Vec.encs_take, Int.toNat_natCast, List.take_length]))), ko (Orc.call [] (AOut.ret (Am.bool true)) (q1 f (List.drop 1 A) B 0 [(Prod.fst x6, tk (Prod.snd x6) 0)])), kp (show (0 : Int) ≤ (1 : Int) ∧ (1 : Int) ≤ (↑(List.length (encs A)) : Int) ∧ (↑(List.length (encs A)) : Int) ≤ (↑(List.length (encs A)) : Int) from (by rw [Go.Vec.encs_length]; omega)), kp (show YieldC P G 0 [AV.agg [int (Prod.fst x6), int (Prod.snd x6), int 0]] [jrng, AObj.box [AV.sl 2 false (encs (List.drop 1 A))], AObj.box [AV.sl 2 false (encs B)], AObj.box [AV.lit (Value.func (Fn.func f) (Array.mk []) (Array.mk []))], AObj.box [nilS], AObj.box [int (Prod.fst x6), int (Prod.snd x6), int 0]] true [jrng, AObj.box [AV.sl 2 false (encs (List.drop 1 A))], AObj.box [AV.sl 2 false (encs B)], AObj.box [AV.lit (Value.func (Fn.func f) (Array.mk []) (Array.mk []))], AObj.box [AV.own 7 0 0 1], AObj.gone, AObj.gone, AObj.arr 0 2 false [[int (Prod.fst x6), int (tk (Prod.snd x6) 0)]]] from (by have h0 := (@hy (List.drop 1 A) (B) (Prod.fst x6) (Prod.snd x6) (0)); simp only [if_pos c11] at h0; exact h0)), kf (Eq.refl false)] (others 91 [0, 1, 2]) 8 h (by kernel_rfl)
        · have h := h.2 c11
          exact loop_next [kv 6 hz0, kt (decide_eq_true c1), kt (Eq.refl true), kv 32 hz1, kf (beq_eq_false_iff_ne.2 c2), kv 36 hz0, kt (decide_eq_true c1), ko (Orc.elem (enc x6)), ko (Orc.elem (enc x8)), kp hz7, kp hz8, kt (decide_eq_true c10), ko (Orc.elem (enc x6)), ko (Orc.elem (enc x6)), kp hz7, kp hz7, kv 60 (show Am.Sub (AV.sl 2 false (List.drop 1 (List.take (Int.toNat (↑(List.length (encs A)) : Int)) (encs A)))) (AV.sl 2 false (encs (List.drop 1 A))) from (Sub.of_eq (by simp only [Go.Vec.encs_length, Go.Vec.encs_drop, Go.Vec.encs_take, Int.toNat_natCast, List.take_length]))), ko (Orc.call [] (AOut.ret (Am.bool true)) (q0 f (List.drop 1 A) B ++ [AObj.box [int (Prod.fst x6), int (Prod.snd x6), int 0]])), kp (show (0 : Int) ≤ (1 : Int) ∧ (1 : Int) ≤ (↑(List.length (encs A)) : Int) ∧ (↑(List.length (encs A)) : Int) ≤ (↑(List.length (encs A)) : Int) from (by rw [Go.Vec.encs_length]; omega)), kp (show YieldC P G 0 [AV.agg [int (Prod.fst x6), int (Prod.snd x6), int 0]] [jrng, AObj.box [AV.sl 2 false (encs (List.drop 1 A))], AObj.box [AV.sl 2 false (encs B)], AObj.box [AV.lit (Value.func (Fn.func f) (Array.mk []) (Array.mk []))], AObj.box [nilS], AObj.box [int (Prod.fst x6), int (Prod.snd x6), int 0]] true [jrng, AObj.box [AV.sl 2 false (encs (List.drop 1 A))], AObj.box [AV.sl 2 false (encs B)], AObj.box [AV.lit (Value.func (Fn.func f) (Array.mk []) (Array.mk []))], AObj.box [nilS], AObj.box [int (Prod.fst x6), int (Prod.snd x6), int 0]] from (by have h0 := (@hy (List.drop 1 A) (B) (Prod.fst x6) (Prod.snd x6) (0)); simp only [if_neg c11] at h0; exact h0)), kf (Eq.refl false)] (others 91 [0, 1, 2]) 5 h (by kernel_rfl)
      · have h := h.2 c10
        have hz11 : ((↑(List.length A) : Int) == 0) = false := (decide_eq_false (by omega))
        by_cases c13 : (Prod.fst x8 < Prod.fst x6)
        · have h := h.1 c13
          have hz12 : Am.Sub (AV.sl 2 false (List.drop 1 (List.take (Int.toNat (↑(List.length (encs B)) : Int)) (encs B)))) (AV.sl 2 false (encs (List.drop 1 B))) := (Sub.of_eq (by simp only [Go.Vec.encs_length, Go.Vec.encs_drop, Go.Vec.encs_take, Int.toNat_natCast, List.take_length]))
          have hz13 : (0 : Int) ≤ (1 : Int) ∧ (1 : Int) ≤ (↑(List.length (encs B)) : Int) ∧ (↑(List.length (encs B)) : Int) ≤ (↑(List.length (encs B)) : Int) := (by rw [Go.Vec.encs_length]; omega)
          by_cases c14 : (tk 0 (Prod.snd x8) > (0 : Int))
          · have h := h.1 c14
            exact loop_next [kv 6 hz0, kt (decide_eq_true c1), kt (Eq.refl true), kv 32 hz1, kf (beq_eq_false_iff_ne.2 c2), kv 36 hz0, kt (decide_eq_true c1), ko (Orc.elem (enc x6)), ko (Orc.elem (enc x8)), kp hz7, kp hz8, kf (decide_eq_false c10), kv 63 hz0, kf hz11, ko (Orc.elem (enc x8)), ko (Orc.elem (enc x6)), kp hz8, kp hz7, kt (decide_eq_true c13), ko (Orc.elem (enc x8)), ko (Orc.elem (enc x8)), kp hz8, kp hz8, kv 86 hz12, ko (Orc.call [] (AOut.ret (Am.bool true)) (q1 f A (List.drop 1 B) 0 [(Prod.fst x8, tk 0 (Prod.snd x8))])), kp hz13, kp (show YieldC P G 0 [AV.agg [int (Prod.fst x8), int 0, int (Prod.snd x8)]] [jrng, AObj.box [AV.sl 2 false (encs A)], AObj.box [AV.sl 2 false (encs (List.drop 1 B))], AObj.box [AV.lit (Value.func (Fn.func f) (Array.mk []) (Array.mk []))], AObj.box [nilS], AObj.box [int (Prod.fst x8), int 0, int (Prod.snd x8)]] true [jrng, AObj.box [AV.sl 2 false (encs A)], AObj.box [AV.sl 2 false (encs (List.drop 1 B))], AObj.box [AV.lit (Value.func (Fn.func f) (Array.mk []) (Array.mk []))], AObj.box [AV.own 7 0 0 1], AObj.gone, AObj.gone, AObj.arr 0 2 false [[int (Prod.fst x8), int (tk 0 (Prod.snd x8))]]] from (by have h0 := (@hy (A) (List.drop 1 B) (Prod.fst x8) (0) (Prod.snd x8)); simp only [if_pos c14] at h0; exact h0)), kf (Eq.refl false)] (others 91 [0, 1, 2]) 8 h (by kernel_rfl)
          · have h := h.2 c14
            exact loop_next [kv 6 hz0, kt (decide_eq_true c1), kt (Eq.refl true), kv 32 hz1, kf (beq_eq_false_iff_ne.2 c2), kv 36 hz0, kt (decide_eq_true c1), ko (Orc.elem (enc x6)), ko (Orc.elem (enc x8)), kp hz7, kp hz8, kf (decide_eq_false c10), kv 63 hz0, kf hz11, ko (Orc.elem (enc x8)), ko (Orc.elem (enc x6)), kp hz8, kp hz7, kt (decide_eq_true c13), ko (Orc.elem (enc x8)), ko (Orc.elem (enc x8)), kp hz8, kp hz8, kv 86 hz12, ko (Orc.call [] (AOut.ret (Am.bool true)) (q0 f A (List.drop 1 B) ++ [AObj.box [int (Prod.fst x8), int 0, int (Prod.snd x8)]])), kp hz13, kp (show YieldC P G 0 [AV.agg [int (Prod.fst x8), int 0, int (Prod.snd x8)]] [jrng, AObj.box [AV.sl 2 false (encs A)], AObj.box [AV.sl 2 false (encs (List.drop 1 B))], AObj.box [AV.lit (Value.func (Fn.func f) (Array.mk []) (Array.mk []))], AObj.box [nilS], AObj.box [int (Prod.fst x8), int 0, int (Prod.snd x8)]] true [jrng, AObj.box [AV.sl 2 false (encs A)], AObj.box [AV.sl 2 false (encs (List.drop 1 B))], AObj.box [AV.lit (Value.func (Fn.func f) (Array.mk []) (Array.mk []))], AObj.box [nilS], AObj.box [int (Prod.fst x8), int 0, int (Prod.snd x8)]] from (by have h0 := (@hy (A) (List.drop 1 B) (Prod.fst x8) (0) (Prod.snd x8)); simp only [if_neg c14] at h0; exact h0)), kf (Eq.refl false)] (others 91 [0, 1, 2]) 5 h (by kernel_rfl)
        · have h := h.2 c13
          have hz12 : Am.Sub (AV.sl 2 false (List.drop 1 (List.take (Int.toNat (↑(List.length (encs B)) : Int)) (encs B)))) (AV.sl 2 false (encs (List.drop 1 B))) := (Sub.of_eq (by simp only [Go.Vec.encs_length, Go.Vec.encs_drop, Go.Vec.encs_take, Int.toNat_natCast, List.take_length]))
          have hz13 : (0 : Int) ≤ (1 : Int) ∧ (1 : Int) ≤ (↑(List.length (encs B)) : Int) ∧ (↑(List.length (encs B)) : Int) ≤ (↑(List.length (encs B)) : Int) := (by rw [Go.Vec.encs_length]; omega)
          by_cases c15 : (tk (Prod.snd x6) (Prod.snd x8) > (0 : Int))
          · have h := h.1 c15
            exact loop_next [kv 6 hz0, kt (decide_eq_true c1), kt (Eq.refl true), kv 32 hz1, kf (beq_eq_false_iff_ne.2 c2), kv 36 hz0, kt (decide_eq_true c1), ko (Orc.elem (enc x6)), ko (Orc.elem (enc x8)), kp hz7, kp hz8, kf (decide_eq_false c10), kv 63 hz0, kf hz11, ko (Orc.elem (enc x8)), ko (Orc.elem (enc x6)), kp hz8, kp hz7, kf (decide_eq_false c13), ko (Orc.elem (enc x6)), ko (Orc.elem (enc x6)), ko (Orc.elem (enc x8)), kp hz7, kp hz7, kp hz8, kv 27 (show Am.Sub (AV.sl 2 false (List.drop 1 (List.take (Int.toNat (↑(List.length (encs A)) : Int)) (encs A)))) (AV.sl 2 false (encs (List.drop 1 A))) from (Sub.of_eq (by simp only [Go.Vec.encs_length, Go.Vec.encs_drop, Go.Vec.encs_take, Int.toNat_natCast, List.take_length]))), kp (show (0 : Int) ≤ (1 : Int) ∧ (1 : Int) ≤ (↑(List.length (encs A)) : Int) ∧ (↑(List.length (encs A)) : Int) ≤ (↑(List.length (encs A)) : Int) from (by rw [Go.Vec.encs_length]; omega)), kv 29 hz12, ko (Orc.call [] (AOut.ret (Am.bool true)) (q1 f (List.drop 1 A) (List.drop 1 B) 0 [(Prod.fst x6, tk (Prod.snd x6) (Prod.snd x8))])), kp hz13, kp (show YieldC P G 0 [AV.agg [int (Prod.fst x6), int (Prod.snd x6), int (Prod.snd x8)]] [jrng, AObj.box [AV.sl 2 false (encs (List.drop 1 A))], AObj.box [AV.sl 2 false (encs (List.drop 1 B))], AObj.box [AV.lit (Value.func (Fn.func f) (Array.mk []) (Array.mk []))], AObj.box [nilS], AObj.box [int (Prod.fst x6), int (Prod.snd x6), int (Prod.snd x8)]] true [jrng, AObj.box [AV.sl 2 false (encs (List.drop 1 A))], AObj.box [AV.sl 2 false (encs (List.drop 1 B))], AObj.box [AV.lit (Value.func (Fn.func f) (Array.mk []) (Array.mk []))], AObj.box [AV.own 7 0 0 1], AObj.gone, AObj.gone, AObj.arr 0 2 false [[int (Prod.fst x6), int (tk (Prod.snd x6) (Prod.snd x8))]]] from (by have h0 := (@hy (List.drop 1 A) (List.drop 1 B) (Prod.fst x6) (Prod.snd x6) (Prod.snd x8)); simp only [if_pos c15] at h0; exact h0)), kf (Eq.refl false)] (others 91 [0, 1, 2]) 8 h (by kernel_rfl)
          · have h := h.2 c15
            exact loop_next [kv 6 hz0, kt (decide_eq_true c1), kt (Eq.refl true), kv 32 hz1, kf (beq_eq_false_iff_ne.2 c2), kv 36 hz0, kt (decide_eq_true c1), ko (Orc.elem (enc x6)), ko (Orc.elem (enc x8)), kp hz7, kp hz8, kf (decide_eq_false c10), kv 63 hz0, kf hz11, ko (Orc.elem (enc x8)), ko (Orc.elem (enc x6)), kp hz8, kp hz7, kf (decide_eq_false c13), ko (Orc.elem (enc x6)), ko (Orc.elem (enc x6)), ko (Orc.elem (enc x8)), kp hz7, kp hz7, kp hz8, kv 27 (show Am.Sub (AV.sl 2 false (List.drop 1 (List.take (Int.toNat (↑(List.length (encs A)) : Int)) (encs A)))) (AV.sl 2 false (encs (List.drop 1 A))) from (Sub.of_eq (by simp only [Go.Vec.encs_length, Go.Vec.encs_drop, Go.Vec.encs_take, Int.toNat_natCast, List.take_length]))), kp (show (0 : Int) ≤ (1 : Int) ∧ (1 : Int) ≤ (↑(List.length (encs A)) : Int) ∧ (↑(List.length (encs A)) : Int) ≤ (↑(List.length (encs A)) : Int) from (by rw [Go.Vec.encs_length]; omega)), kv 29 hz12, ko (Orc.call [] (AOut.ret (Am.bool true)) (q0 f (List.drop 1 A) (List.drop 1 B) ++ [AObj.box [int (Prod.fst x6), int (Prod.snd x6), int (Prod.snd x8)]])), kp hz13, kp (show YieldC P G 0 [AV.agg [int (Prod.fst x6), int (Prod.snd x6), int (Prod.snd x8)]] [jrng, AObj.box [AV.sl 2 false (encs (List.drop 1 A))], AObj.box [AV.sl 2 false (encs (List.drop 1 B))], AObj.box [AV.lit (Value.func (Fn.func f) (Array.mk []) (Array.mk []))], AObj.box [nilS], AObj.box [int (Prod.fst x6), int (Prod.snd x6), int (Prod.snd x8)]] true [jrng, AObj.box [AV.sl 2 false (encs (List.drop 1 A))], AObj.box [AV.sl 2 false (encs (List.drop 1 B))], AObj.box [AV.lit (Value.func (Fn.func f) (Array.mk []) (Array.mk []))], AObj.box [nilS], AObj.box [int (Prod.fst x6), int (Prod.snd x6), int (Prod.snd x8)]] from (by have h0 := (@hy (List.drop 1 A) (List.drop 1 B) (Prod.fst x6) (Prod.snd x6) (Prod.snd x8)); simp only [if_neg c15] at h0; exact h0)), kf (Eq.refl false)] (others 91 [0, 1, 2]) 5 h (by kernel_rfl)
  · have h := h.2 c1
    have hz1 : Am.Sub (int (↑(List.length (encs B)) : Int)) (int (↑(List.length B) : Int)) := (Sub.of_eq (by simp only [Go.Vec.encs_length, Int.toNat_natCast]))
    by_cases c16 : ((↑(List.length B) : Int) > (0 : Int))
    · have h := h.1 c16
      have hz18 : ((↑(List.length B) : Int) == 0) = false := (decide_eq_false (by omega))
      have hz19 : ((↑(List.length A) : Int) == 0) = true := (decide_eq_true (by omega))
      obtain ⟨x19, o20, h⟩ := h
      have hz20 : (0 : Int) ≤ (0 : Int) ∧ (encs B)[Int.toNat 0]? = some (enc x19) := (el_nat o20)
      by_cases c21 : (tk 0 (Prod.snd x19) > (0 : Int))
      · have h := h.1 c21
        exact loop_next [kv 6 hz0, kf (decide_eq_false c1), kv 10 hz1, kt (decide_eq_true c16), kv 32 hz1, kf hz18, kv 36 hz0, kf (decide_eq_false c1), kf (Eq.refl false), kv 63 hz0, kt hz19, kt (Eq.refl true), ko (Orc.elem (enc x19)), ko (Orc.elem (enc x19)), kp hz20, kp hz20, kv 86 (show Am.Sub (AV.sl 2 false (List.drop 1 (List.take (Int.toNat (↑(List.length (encs B)) : Int)) (encs B)))) (AV.sl 2 false (encs (List.drop 1 B))) from (Sub.of_eq (by simp only [Go.Vec.encs_length, Go.Vec.encs_drop, Go.Vec.encs_take, Int.toNat_natCast, List.take_length]))), ko (Orc.call [] (AOut.ret (Am.bool true)) (q1 f A (List.drop 1 B) 0 [(Prod.fst x19, tk 0 (Prod.snd x19))])), kp (show (0 : Int) ≤ (1 : Int) ∧ (1 : Int) ≤ (↑(List.length (encs B)) : Int) ∧ (↑(List.length (encs B)) : Int) ≤ (↑(List.length (encs B)) : Int) from (by rw [Go.Vec.encs_length]; omega)), kp (show YieldC P G 0 [AV.agg [int (Prod.fst x19), int 0, int (Prod.snd x19)]] [jrng, AObj.box [AV.sl 2 false (encs A)], AObj.box [AV.sl 2 false (encs (List.drop 1 B))], AObj.box [AV.lit (Value.func (Fn.func f) (Array.mk []) (Array.mk []))], AObj.box [nilS], AObj.box [int (Prod.fst x19), int 0, int (Prod.snd x19)]] true [jrng, AObj.box [AV.sl 2 false (encs A)], AObj.box [AV.sl 2 false (encs (List.drop 1 B))], AObj.box [AV.lit (Value.func (Fn.func f) (Array.mk []) (Array.mk []))], AObj.box [AV.own 7 0 0 1], AObj.gone, AObj.gone, AObj.arr 0 2 false [[int (Prod.fst x19), int (tk 0 (Prod.snd x19))]]] from (by have h0 := (@hy (A) (List.drop 1 B) (Prod.fst x19) (0) (Prod.snd x19)); simp only [if_pos c21] at h0; exact h0)), kf (Eq.refl false)] (others 91 [0, 1, 2]) 8 h (by kernel_rfl)
      · have h := h.2 c21
        exact loop_next [kv 6 hz0, kf (decide_eq_false c1), kv 10 hz1, kt (decide_eq_true c16), kv 32 hz1, kf hz18, kv 36 hz0, kf (decide_eq_false c1), kf (Eq.refl false), kv 63 hz0, kt hz19, kt (Eq.refl true), ko (Orc.elem (enc x19)), ko (Orc.elem (enc x19)), kp hz20, kp hz20, kv 86 (show Am.Sub (AV.sl 2 false (List.drop 1 (List.take (Int.toNat (↑(List.length (encs B)) : Int)) (encs B)))) (AV.sl 2 false (encs (List.drop 1 B))) from (Sub.of_eq (by simp only [Go.Vec.encs_length, Go.Vec.encs_drop, Go.Vec.encs_take, Int.toNat_natCast, List.take_length]))), ko (Orc.call [] (AOut.ret (Am.bool true)) (q0 f A (List.drop 1 B) ++ [AObj.box [int (Prod.fst x19), int 0, int (Prod.snd x19)]])), kp (show (0 : Int) ≤ (1 : Int) ∧ (1 : Int) ≤ (↑(List.length (encs B)) : Int) ∧ (↑(List.length (encs B)) : Int) ≤ (↑(List.length (encs B)) : Int) from (by rw [Go.Vec.encs_length]; omega)), kp (show YieldC P G 0 [AV.agg [int (Prod.fst x19), int 0, int (Prod.snd x19)]] [jrng, AObj.box [AV.sl 2 false (encs A)], AObj.box [AV.sl 2 false (encs (List.drop 1 B))], AObj.box [AV.lit (Value.func (Fn.func f) (Array.mk []) (Array.mk []))], AObj.box [nilS], AObj.box [int (Prod.fst x19), int 0, int (Prod.snd x19)]] true [jrng, AObj.box [AV.sl 2 false (encs A)], AObj.box [AV.sl 2 false (encs (List.drop 1 B))], AObj.box [AV.lit (Value.func (Fn.func f) (Array.mk []) (Array.mk []))], AObj.box [nilS], AObj.box [int (Prod.fst x19), int 0, int (Prod.snd x19)]] from (by have h0 := (@hy (A) (List.drop 1 B) (Prod.fst x19) (0) (Prod.snd x19)); simp only [if_neg c21] at h0; exact h0)), kf (Eq.refl false)] (others 91 [0, 1, 2]) 5 h (by kernel_rfl)
    · have h := h.2 c16
      obtain ⟨eX, eS⟩ := h
      exact RunL.to ((show RunL P G none 5 (loopAt P 69 0) (plSt0 f A B) (AEx.exit 0) (St.mk (slots 91 []) [jrng, AObj.box [AV.sl 2 false (encs A)], AObj.box [AV.sl 2 false (encs B)], AObj.box [AV.lit (Value.func (Fn.func f) (Array.mk []) (Array.mk []))], AObj.box [nilS]] []) from loop_exit [kv 6 hz0, kf (decide_eq_false c1), kv 10 hz1, kf (decide_eq_false c16)] (others 91 []) 5 (by kernel_rfl))) eX (SubS.of_eq eS)

end Go.Vec

/- VECTOR, 5: the loop over the pairs of two vectors. -/
namespace Go.Vec
set_option maxRecDepth 100000
set_option linter.unusedSimpArgs false
set_option linter.unusedVariables false
open Go Go.Am Go.Proofs Go.Seat

theorem pl_w1 (f : Nat) (tk : Int → Int → Int) (A B : List D) (g : Nat) (v : List D) (hv : v.length ≤ 3000000000) (hy : ∀ A B v g d x y, v.length ≤ 3000000000 → YieldC P G 0 [.agg [int d, int x, int y]] (q1 f A B g v ++ [.box [int d, int x, int y]]) true (if tk x y > 0 then q1 f A B (g + 1) (v ++ [(d, tk x y)]) ++ [.box [int d, int x, int y]] else q1 f A B g v ++ [.box [int d, int x, int y]])) (hA : A.length ≤ 1000000000) (hB : B.length ≤ 1000000000) (ex : AEx) (s' : St) (h : ((((↑(List.length A) : Int) > (0 : Int)) → ((((↑(List.length B) : Int) = (0 : Int)) → (∃ x3 : D, (A[0]? = some x3) ∧ (((tk (Prod.snd x3) 0 > (0 : Int)) → RunL P G none 5 (loopAt P 69 0) (St.mk (slots 91 [(0, AV.yl 0), (1, AV.ptr 1 0), (2, AV.ptr 2 0)]) [jrng, AObj.box [AV.sl 2 false (encs (List.drop 1 A))], AObj.box [AV.sl 2 false (encs B)], AObj.box [AV.lit (Value.func (Fn.func f) (Array.mk []) (Array.mk []))], AObj.box [AV.own 7 (g + 1) 0 (List.length (v ++ [(Prod.fst x3, tk (Prod.snd x3) 0)]))], AObj.gone, AObj.gone, AObj.arr (g + 1) 2 false (encs (v ++ [(Prod.fst x3, tk (Prod.snd x3) 0)]))] []) ex s') ∧ ((¬tk (Prod.snd x3) 0 > (0 : Int)) → RunL P G none 5 (loopAt P 69 0) (St.mk (slots 91 [(0, AV.yl 0), (1, AV.ptr 1 0), (2, AV.ptr 2 0)]) [jrng, AObj.box [AV.sl 2 false (encs (List.drop 1 A))], AObj.box [AV.sl 2 false (encs B)], AObj.box [AV.lit (Value.func (Fn.func f) (Array.mk []) (Array.mk []))], AObj.box [AV.own 7 g 0 (List.length v)], AObj.gone, AObj.gone, AObj.arr g 2 false (encs v)] []) ex s')))) ∧ ((¬(↑(List.length B) : Int) = (0 : Int)) → (∃ x6 : D, (A[0]? = some x6) ∧ (∃ x8 : D, (B[0]? = some x8) ∧ (((Prod.fst x6 < Prod.fst x8) → (((tk (Prod.snd x6) 0 > (0 : Int)) → RunL P G none 5 (loopAt P 69 0) (St.mk (slots 91 [(0, AV.yl 0), (1, AV.ptr 1 0), (2, AV.ptr 2 0)]) [jrng, AObj.box [AV.sl 2 false (encs (List.drop 1 A))], AObj.box [AV.sl 2 false (encs B)], AObj.box [AV.lit (Value.func (Fn.func f) (Array.mk []) (Array.mk []))], AObj.box [AV.own 7 (g + 1) 0 (List.length (v ++ [(Prod.fst x6, tk (Prod.snd x6) 0)]))], AObj.gone, AObj.gone, AObj.arr (g + 1) 2 false (encs (v ++ [(Prod.fst x6, tk (Prod.snd x6) 0)]))] []) ex s') ∧ ((¬tk (Prod.snd x6) 0 > (0 : Int)) → RunL P G none 5 (loopAt P 69 0) (St.mk (slots 91 [(0, AV.yl 0), (1, AV.ptr 1 0), (2, AV.ptr 2 0)]) [jrng, AObj.box [AV.sl 2 false (encs (List.drop 1 A))], AObj.box [AV.sl 2 false (encs B)], AObj.box [AV.lit (Value.func (Fn.func f) (Array.mk []) (Array.mk []))], AObj.box [AV.own 7 g 0 (List.length v)], AObj.gone, AObj.gone, AObj.arr g 2 false (encs v)] []) ex s'))) ∧ ((¬Prod.fst x6 < Prod.fst x8) → (((Prod.fst x8 < Prod.fst x6) → (((tk 0 (Prod.snd x8) > (0 : Int)) → RunL P G none 5 (loopAt P 69 0) (St.mk (slots 91 [(0, AV.yl 0), (1, AV.ptr 1 0), (2, AV.ptr 2 0)]) [jrng, AObj.box [AV.sl 2 false (encs A)], AObj.box [AV.sl 2 false (encs (List.drop 1 B))], AObj.box [AV.lit (Value.func (Fn.func f) (Array.mk []) (Array.mk []))], AObj.box [AV.own 7 (g + 1) 0 (List.length (v ++ [(Prod.fst x8, tk 0 (Prod.snd x8))]))], AObj.gone, AObj.gone, AObj.arr (g + 1) 2 false (encs (v ++ [(Prod.fst x8, tk 0 (Prod.snd x8))]))] []) ex s') ∧ ((¬tk 0 (Prod.snd x8) > (0 : Int)) → RunL P G none 5 (loopAt P 69 0) (St.mk (slots 91 [(0, AV.yl 0), (1, AV.ptr 1 0), (2, AV.ptr 2 0)]) [jrng, AObj.box [AV.sl 2 false (encs A)], AObj.box [AV.sl 2 false (encs (List.drop 1 B))], AObj.box [AV.lit (Value.func (Fn.func f) (Array.mk []) (Array.mk []))], AObj.box [AV.own 7 g 0 (List.length v)], AObj.gone, AObj.gone, AObj.arr g 2 false (encs v)] []) ex s'))) ∧ ((¬Prod.fst x8 < Prod.fst x6) → (((tk (Prod.snd x6) (Prod.snd x8) > (0 : Int)) → RunL P G none 5 (loopAt P 69 0) (St.mk (slots 91 [(0, AV.yl 0), (1, AV.ptr 1 0), (2, AV.ptr 2 0)]) [jrng, AObj.box [AV.sl 2 false (encs (List.drop 1 A))], AObj.box [AV.sl 2 false (encs (List.drop 1 B))], AObj.box [AV.lit (Value.func (Fn.func f) (Array.mk []) (Array.mk []))], AObj.box [AV.own 7 (g + 1) 0 (List.length (v ++ [(Prod.fst x6, tk (Prod.snd x6) (Prod.snd x8))]))], AObj.gone, AObj.gone, AObj.arr (g + 1) 2 false (encs (v ++ [(Prod.fst x6, tk (Prod.snd x6) (Prod.snd x8))]))] []) ex s') ∧ ((¬tk (Prod.snd x6) (Prod.snd x8) > (0 : Int)) → RunL P G none 5 (loopAt P 69 0) (St.mk (slots 91 [(0, AV.yl 0), (1, AV.ptr 1 0), (2, AV.ptr 2 0)]) [jrng, AObj.box [AV.sl 2 false (encs (List.drop 1 A))], AObj.box [AV.sl 2 false (encs (List.drop 1 B))], AObj.box [AV.lit (Value.func (Fn.func f) (Array.mk []) (Array.mk []))], AObj.box [AV.own 7 g 0 (List.length v)], AObj.gone, AObj.gone, AObj.arr g 2 false (encs v)] []) ex s'))))))))))) ∧ ((¬(↑(List.length A) : Int) > (0 : Int)) → ((((↑(List.length B) : Int) > (0 : Int)) → (∃ x19 : D, (B[0]? = some x19) ∧ (((tk 0 (Prod.snd x19) > (0 : Int)) → RunL P G none 5 (loopAt P 69 0) (St.mk (slots 91 [(0, AV.yl 0), (1, AV.ptr 1 0), (2, AV.ptr 2 0)]) [jrng, AObj.box [AV.sl 2 false (encs A)], AObj.box [AV.sl 2 false (encs (List.drop 1 B))], AObj.box [AV.lit (Value.func (Fn.func f) (Array.mk []) (Array.mk []))], AObj.box [AV.own 7 (g + 1) 0 (List.length (v ++ [(Prod.fst x19, tk 0 (Prod.snd x19))]))], AObj.gone, AObj.gone, AObj.arr (g + 1) 2 false (encs (v ++ [(Prod.fst x19, tk 0 (Prod.snd x19))]))] []) ex s') ∧ ((¬tk 0 (Prod.snd x19) > (0 : Int)) → RunL P G none 5 (loopAt P 69 0) (St.mk (slots 91 [(0, AV.yl 0), (1, AV.ptr 1 0), (2, AV.ptr 2 0)]) [jrng, AObj.box [AV.sl 2 false (encs A)], AObj.box [AV.sl 2 false (encs (List.drop 1 B))], AObj.box [AV.lit (Value.func (Fn.func f) (Array.mk []) (Array.mk []))], AObj.box [AV.own 7 g 0 (List.length v)], AObj.gone, AObj.gone, AObj.arr g 2 false (encs v)] []) ex s')))) ∧ ((¬(↑(List.length B) : Int) > (0 : Int)) → (AEx.exit 0 = ex) ∧ (St.mk (slots 91 []) [jrng, AObj.box [AV.sl 2 false (encs A)], AObj.box [AV.sl 2 false (encs B)], AObj.box [AV.lit (Value.func (Fn.func f) (Array.mk []) (Array.mk []))], AObj.box [AV.own 7 g 0 (List.length v)], AObj.gone, AObj.gone, AObj.arr g 2 false (encs v)] [] = s')))))) : RunL P G none 5 (loopAt P 69 0) (plSt1 f A B g v) ex s' := by
  have hz0 : Am.Sub (int (↑(List.length (encs A)) : Int)) (int (↑(List.length A) : Int)) := (Sub.of_eq (by simp only [Go.Vec.encs_length, Int.toNat_natCast]))
  have hz8 : ∀ (x : List AV), x ∈ encs v → AV.idsInL [] x = true := (Go.Vec.encs_ids _)
  by_cases c1 : ((↑(List.length A) : Int) > (0 : Int))
  · have h := h.1 c1
    have hz1 : Am.Sub (int (↑(List.length (encs B)) : Int)) (int (↑(List.length B) : Int)) := (Sub.of_eq (by simp only [Go.Vec.encs_length, Int.toNat_natCast]))
    by_cases c2 : ((↑(List.length B) : Int) = (0 : Int))
    · have h := h.1 c2
      obtain ⟨x3, o4, h⟩ := h
      have hz2 : (0 : Int) ≤ (0 : Int) ∧ (encs A)[Int.toNat 0]? = some (enc x3) := (el_nat o4)
      have hz3 : Am.Sub (AV.sl 2 false (List.drop 1 (List.take (Int.toNat (↑(List.length (encs A)) : Int)) (encs A)))) (AV.sl 2 false (encs (List.drop 1 A))) := (Sub.of_eq (by simp only [Go.Vec.encs_length, Go.Vec.encs_drop, Go.Vec.encs_take, Int.toNat_natCast, List.take_length]))
      have hz4 : (0 : Int) ≤ (1 : Int) ∧ (1 : Int) ≤ (↑(List.length (encs A)) : Int) ∧ (↑(List.length (encs A)) : Int) ≤ (↑(List.length (encs A)) : Int) := (by rw [Go.Vec.encs_length]; omega)
      by_cases c5 : (tk (Prod.snd x3) 0 > (0 : Int))
      · have h := h.1 c5
        exact loop_next [kv 6 hz0, kt (decide_eq_true c1), kt (Eq.refl true), kv 32 hz1, kt (beq_iff_eq.2 c2), kt (Eq.refl true), ko (Orc.elem (enc x3)), ko (Orc.elem (enc x3)), kp hz2, kp hz2, kv 60 hz3, ko (Orc.call [] (AOut.ret (Am.bool true)) (q1 f (List.drop 1 A) B (g + 1) (v ++ [(Prod.fst x3, tk (Prod.snd x3) 0)]) ++ [AObj.box [int (Prod.fst x3), int (Prod.snd x3), int 0]])), kp hz4, kp (show YieldC P G 0 [AV.agg [int (Prod.fst x3), int (Prod.snd x3), int 0]] [jrng, AObj.box [AV.sl 2 false (encs (List.drop 1 A))], AObj.box [AV.sl 2 false (encs B)], AObj.box [AV.lit (Value.func (Fn.func f) (Array.mk []) (Array.mk []))], AObj.box [AV.own 7 g 0 (List.length v)], AObj.gone, AObj.gone, AObj.arr g 2 false (encs v), AObj.box [int (Prod.fst x3), int (Prod.snd x3), int 0]] true [jrng, AObj.box [AV.sl 2 false (encs (List.drop 1 A))], AObj.box [AV.sl 2 false (encs B)], AObj.box [AV.lit (Value.func (Fn.func f) (Array.mk []) (Array.mk []))], AObj.box [AV.own 7 (g + 1) 0 (List.length (v ++ [(Prod.fst x3, tk (Prod.snd x3) 0)]))], AObj.gone, AObj.gone, AObj.arr (g + 1) 2 false (encs (v ++ [(Prod.fst x3, tk (Prod.snd x3) 0)])), AObj.box [int (Prod.fst x3), int (Prod.snd x3), int 0]] from (by have h0 := (@hy (List.drop 1 A) (B) (v) (g) (Prod.fst x3) (Prod.snd x3) (0) (by omega)); simp only [if_pos c5] at h0; exact h0)), kf (Eq.refl false), kp (show ∀ (x : List AV), x ∈ encs (v ++ [(Prod.fst x3, tk (Prod.snd x3) 0)]) → AV.idsInL [] x = true from (Go.Vec.encs_ids _))] (others 91 [0, 1, 2]) 8 h (by kernel_rfl)
      · have h := h.2 c5
        exact loop_next [kv 6 hz0, kt (decide_eq_true c1), kt (Eq.refl true), kv 32 hz1, kt (beq_iff_eq.2 c2), kt (Eq.refl true), ko (Orc.elem (enc x3)), ko (Orc.elem (enc x3)), kp hz2, kp hz2, kv 60 hz3, ko (Orc.call [] (AOut.ret (Am.bool true)) (q1 f (List.drop 1 A) B g v ++ [AObj.box [int (Prod.fst x3), int (Prod.snd x3), int 0]])), kp hz4, kp (show YieldC P G 0 [AV.agg [int (Prod.fst x3), int (Prod.snd x3), int 0]] [jrng, AObj.box [AV.sl 2 false (encs (List.drop 1 A))], AObj.box [AV.sl 2 false (encs B)], AObj.box [AV.lit (Value.func (Fn.func f) (Array.mk []) (Array.mk []))], AObj.box [AV.own 7 g 0 (List.length v)], AObj.gone, AObj.gone, AObj.arr g 2 false (encs v), AObj.box [int (Prod.fst x3), int (Prod.snd x3), int 0]] true [jrng, AObj.box [AV.sl 2 false (encs (List.drop 1 A))], AObj.box [AV.sl 2 false (encs B)], AObj.box [AV.lit (Value.func (Fn.func f) (Array.mk []) (Array.mk []))], AObj.box [AV.own 7 g 0 (List.length v)], AObj.gone, AObj.gone, AObj.arr g 2 false (encs v), AObj.box [int (Prod.fst x3), int (Prod.snd x3), int 0]] from (by have h0 := (@hy (List.drop 1 A) (B) (v) (g) (Prod.fst x3) (Prod.snd x3) (0) (by omega)); simp only [if_neg c5] at h0; exact h0)), kf (Eq.refl false), kp hz8] (others 91 [0, 1, 2]) 8 h (by kernel_rfl)
    · have h := h.2 c2
      obtain ⟨x6, o7, h⟩ := h
      have hz9 : (0 : Int) ≤ (0 : Int) ∧ (encs A)[Int.toNat 0]? = some (enc x6) := (el_nat o7)
      obtain ⟨x8, o9, h⟩ := h
      have hz10 : (0 : Int) ≤ (0 : Int) ∧ (encs B)[Int.toNat 0]? = some (enc x8) := (el_nat o9)
      by_cases c10 : (Prod.fst x6 < Prod.fst x8)
      · have h := h.1 c10
        by_cases c11 : (tk (Prod.snd x6) 0 > (0 : Int))
        · have h := h.1 c11
          exact loop_next [kv 6 hz0, kt (decide_eq_true c1), kt (Eq.refl true), kv 32 hz1, kf (beq_eq_false_iff_ne.2 c2), kv 36 hz0, kt (decide_eq_true c1), ko (Orc.elem (enc x6)), ko (Orc.elem (enc x8)), kp hz9, kp hz10, kt (decide_eq_true c10), ko (Orc.elem (enc x6)), ko (Orc.elem (enc x6)), kp hz9, kp hz9, kv 60 (show Am.Sub (AV.sl 2 false (List.drop 1 (List.take (Int.toNat (↑(List.length (encs A)) : Int)) (encs A)))) (AV.sl 2 false (encs (List.drop 1 A))) from (Sub.of_eq (by simp only [Go.Vec.encs_length, Go.Vec.encs_drop, Go.Vec.encs_take, Int.toNat_natCast, List.take_length]))), ko (Orc.call [] (AOut.ret (Am.bool true)) (q1 f (List.drop 1 A) B (g + 1) (v ++ [(Prod.fst x6, tk (Prod.snd x6) 0)]) ++ [AObj.box [int (Prod.fst x6), int (Prod.snd x6), int 0]])), kp (show (0 : Int) ≤ (1 : Int) ∧ (1 : Int) ≤ (↑(List.length (encs A)) : Int) ∧ (↑(List.length (encs A)) : Int) ≤ (↑(List.length (encs A)) : Int) from (by rw [Go.Vec.encs_length]; omega)), kp (show YieldC P G 0 [AV.agg [int (Prod.fst x6), int (Prod.snd x6), int 0]] [jrng, AObj.box [AV.sl 2 false (encs (List.drop 1 A))], AObj.box [AV.sl 2 false (encs B)], AObj.box [AV.lit (Value.func (Fn.func f) (Array.mk []) (Array.mk []))], AObj.box [AV.own 7 g 0 (List.length v)], AObj.gone, AObj.gone, AObj.arr g 2 false (encs v), AObj.box [int (Prod.fst x6), int (Prod.snd x6), int 0]] true [jrng, AObj.box [AV.sl 2 false (encs (List.drop 1 A))], AObj.box [AV.sl 2 false (encs B)], AObj.box [AV.lit (Value.func (Fn.func f) (Array.mk []) (Array.mk []))], AObj.box [AV.own 7 (g + 1) 0 (List.length (v ++ [(Prod.fst x6, tk (Prod.snd x6) 0)]))], AObj.gone, AObj.gone, AObj.arr (g + 1) 2 false (encs (v ++ [(Prod.fst x6, tk (Prod.snd x6) 0)])), AObj.box [int (Prod.fst x6), int (Prod.snd x6), int 0]] from (by have h0 := (@hy (List.drop 1 A) (B) (v) (g) (Prod.fst x6) (Prod.snd x6) (0) (by omega)); simp only [if_pos c11] at h0; exact h0)), kf (Eq.refl false), kp (show ∀ (x : List AV), x ∈ encs (v ++ [(Prod.fst x6, tk (Prod.snd x6) 0)]) → AV.idsInL [] x = true from (Go.Vec.encs_ids _))] (others 91 [0, 1, 2]) 8 h (by kernel_rfl)
        · have h := h.2 c11
          exact loop_next [kv 6 hz0, kt (decide_eq_true c1), kt (Eq.refl true), kv 32 hz1, kf (beq_eq_false_iff_ne.2 c2), kv 36 hz0, kt (decide_eq_true c1), ko (Orc.elem (enc x6)), ko (Orc.elem (enc x8)), kp hz9, kp hz10, kt (decide_eq_true c10), ko (Orc.elem (enc x6)), ko (Orc.elem (enc x6)), kp hz9, kp hz9, kv 60 (show Am.Sub (AV.sl 2 false (List.drop 1 (List.take (Int.toNat (↑(List.length (encs A)) : Int)) (encs A)))) (AV.sl 2 false (encs (List.drop 1 A))) from (Sub.of_eq (by simp only [Go.Vec.encs_length, Go.Vec.encs_drop, Go.Vec.encs_take, Int.toNat_natCast, List.take_length]))), ko (Orc.call [] (AOut.ret (Am.bool true)) (q1 f (List.drop 1 A) B g v ++ [AObj.box [int (Prod.fst x6), int (Prod.snd x6), int 0]])), kp (show (0 : Int) ≤ (1 : Int) ∧ (1 : Int) ≤ (↑(List.length (encs A)) : Int) ∧ (↑(List.length (encs A)) : Int) ≤ (↑(List.length (encs A)) : Int) from (by rw [Go.Vec.encs_length]; omega)), kp (show YieldC P G 0 [AV.agg [int (Prod.fst x6), int (Prod.snd x6), int 0]] [jrng, AObj.box [AV.sl 2 false (encs (List.drop 1 A))], AObj.box [AV.sl 2 false (encs B)], AObj.box [AV.lit (Value.func (Fn.func f) (Array.mk []) (Array.mk []))], AObj.box [AV.own 7 g 0 (List.length v)], AObj.gone, AObj.gone, AObj.arr g 2 false (encs v), AObj.box [int (Prod.fst x6), int (Prod.snd x6), int 0]] true [jrng, AObj.box [AV.sl 2 false (encs (List.drop 1 A))], AObj.box [AV.sl 2 false (encs B)], AObj.box [AV.lit (Value.func (Fn.func f) (Array.mk []) (Array.mk []))], AObj.box [AV.own 7 g 0 (List.length v)], AObj.gone, AObj.gone, AObj.arr g 2 false (encs v), AObj.box [int (Prod.fst x6), int (Prod.snd x6), int 0]] from (by have h0 := (@hy (List.drop 1 A) (B) (v) (g) (Prod.fst x6) (Prod.snd x6) (0) (by omega)); simp only [if_neg c11] at h0; exact h0)), kf (Eq.refl false), kp hz8] (others 91 [0, 1, 2]) 8 h (by kernel_rfl)
      · have h := h.2 c10
        have hz14 : ((↑(List.length A) : Int) == 0) = false := (decide_eq_false (by omega))
        by_cases c13 : (Prod.fst x8 < Prod.fst x6)
        · have h := h.1 c13
          have hz15 : Am.Sub (AV.sl 2 false (List.drop 1 (List.take (Int.toNat (↑(List.length (encs B)) : Int)) (encs B)))) (AV.sl 2 false (encs (List.drop 1 B))) := (Sub.of_eq (by simp only [Go.Vec.encs_length, Go.Vec.encs_drop, Go.Vec.encs_take, Int.toNat_natCast, List.take_length]))
          have hz16 : (0 : Int) ≤ (1 : Int) ∧ (1 : Int) ≤ (↑(List.length (encs B)) : Int) ∧ (↑(List.length (encs B)) : Int) ≤ (↑(List.length (encs B)) : Int) := (by rw [Go.Vec.encs_length]; omega)
          by_cases c14 : (tk 0 (Prod.snd x8) > (0 : Int))
          · have h := h.1 c14
            exact loop_next [kv 6 hz0, kt (decide_eq_true c1), kt (Eq.refl true), kv 32 hz1, kf (beq_eq_false_iff_ne.2 c2), kv 36 hz0, kt (decide_eq_true c1), ko (Orc.elem (enc x6)), ko (Orc.elem (enc x8)), kp hz9, kp hz10, kf (decide_eq_false c10), kv 63 hz0, kf hz14, ko (Orc.elem (enc x8)), ko (Orc.elem (enc x6)), kp hz10, kp hz9, kt (decide_eq_true c13), ko (Orc.elem (enc x8)), ko (Orc.elem (enc x8)), kp hz10, kp hz10, kv 86 hz15, ko (Orc.call [] (AOut.ret (Am.bool true)) (q1 f A (List.drop 1 B) (g + 1) (v ++ [(Prod.fst x8, tk 0 (Prod.snd x8))]) ++ [AObj.box [int (Prod.fst x8), int 0, int (Prod.snd x8)]])), kp hz16, kp (show YieldC P G 0 [AV.agg [int (Prod.fst x8), int 0, int (Prod.snd x8)]] [jrng, AObj.box [AV.sl 2 false (encs A)], AObj.box [AV.sl 2 false (encs (List.drop 1 B))], AObj.box [AV.lit (Value.func (Fn.func f) (Array.mk []) (Array.mk []))], AObj.box [AV.own 7 g 0 (List.length v)], AObj.gone, AObj.gone, AObj.arr g 2 false (encs v), AObj.box [int (Prod.fst x8), int 0, int (Prod.snd x8)]] true [jrng, AObj.box [AV.sl 2 false (encs A)], AObj.box [AV.sl 2 false (encs (List.drop 1 B))], AObj.box [AV.lit (Value.func (Fn.func f) (Array.mk []) (Array.mk []))], AObj.box [AV.own 7 (g + 1) 0 (List.length (v ++ [(Prod.fst x8, tk 0 (Prod.snd x8))]))], AObj.gone, AObj.gone, AObj.arr (g + 1) 2 false (encs (v ++ [(Prod.fst x8, tk 0 (Prod.snd x8))])), AObj.box [int (Prod.fst x8), int 0, int (Prod.snd x8)]] from (by have h0 := (@hy (A) (List.drop 1 B) (v) (g) (Prod.fst x8) (0) (Prod.snd x8) (by omega)); simp only [if_pos c14] at h0; exact h0)), kf (Eq.refl false), kp (show ∀ (x : List AV), x ∈ encs (v ++ [(Prod.fst x8, tk 0 (Prod.snd x8))]) → AV.idsInL [] x = true from (Go.Vec.encs_ids _))] (others 91 [0, 1, 2]) 8 h (by kernel_rfl)
          · have h := h.2 c14
            exact loop_next [kv 6 hz0, kt (decide_eq_true c1), kt (Eq.refl true), kv 32 hz1, kf (beq_eq_false_iff_ne.2 c2), kv 36 hz0, kt (decide_eq_true c1), ko (Orc.elem (enc x6)), ko (Orc.elem (enc x8)), kp hz9, kp hz10, kf (decide_eq_false c10), kv 63 hz0, kf hz14, ko (Orc.elem (enc x8)), ko (Orc.elem (enc x6)), kp hz10, kp hz9, kt (decide_eq_true c13), ko (Orc.elem (enc x8)), ko (Orc.elem (enc x8)), kp hz10, kp hz10, kv 86 hz15, ko (Orc.call [] (AOut.ret (Am.bool true)) (q1 f A (List.drop 1 B) g v ++ [AObj.box [int (Prod.fst x8), int 0, int (Prod.snd x8)]])), kp hz16, kp (show YieldC P G 0 [AV.agg [int (Prod.fst x8), int 0, int (Prod.snd x8)]] [jrng, AObj.box [AV.sl 2 false (encs A)], AObj.box [AV.sl 2 false (encs (List.drop 1 B))], AObj.box [AV.lit (Value.func (Fn.func f) (Array.mk []) (Array.mk []))], AObj.box [AV.own 7 g 0 (List.length v)], AObj.gone, AObj.gone, AObj.arr g 2 false (encs v), AObj.box [int (Prod.fst x8), int 0, int (Prod.snd x8)]] true [jrng, AObj.box [AV.sl 2 false (encs A)], AObj.box [AV.sl 2 false (encs (List.drop 1 B))], AObj.box [AV.lit (Value.func (Fn.func f) (Array.mk []) (Array.mk []))], AObj.box [AV.own 7 g 0 (List.length v)], AObj.gone, AObj.gone, AObj.arr g 2 false (encs v), AObj.box [int (Prod.fst x8), int 0, int (Prod.snd x8)]] from (by have h0 := (@hy (A) (List.drop 1 B) (v) (g) (Prod.fst x8) (0) (Prod.snd x8) (by omega)); simp only [if_neg c14] at h0; exact h0)), kf (Eq.refl false), kp hz8] (others 91 [0, 1, 2]) 8 h (by kernel_rfl)
        · have h := h.2 c13
          have hz15 : Am.Sub (AV.sl 2 false (List.drop 1 (List.take (Int.toNat (↑(List.length (encs B)) : Int)) (encs B)))) (AV.sl 2 false (encs (List.drop 1 B))) := (Sub.of_eq (by simp only [Go.Vec.encs_length, Go.Vec.encs_drop, Go.Vec.encs_take, Int.toNat_natCast, List.take_length]))
          have hz16 : (0 : Int) ≤ (1 : Int) ∧ (1 : Int) ≤ (↑(List.length (encs B)) : Int) ∧ (↑(List.length (encs B)) : Int) ≤ (↑(List.length (encs B)) : Int) := (by rw [Go.Vec.encs_length]; omega)
          by_cases c15 : (tk (Prod.snd x6) (Prod.snd x8) > (0 : Int))
          · have h := h.1 c15
            exact loop_next [kv 6 hz0, kt (decide_eq_true c1), kt (Eq.refl true), kv 32 hz1, kf (beq_eq_false_iff_ne.2 c2), kv 36 hz0, kt (decide_eq_true c1), ko (Orc.elem (enc x6)), ko (Orc.elem (enc x8)), kp hz9, kp hz10, kf (decide_eq_false c10), kv 63 hz0, kf hz14, ko (Orc.elem (enc x8)), ko (Orc.elem (enc x6)), kp hz10, kp hz9, kf (decide_eq_false c13), ko (Orc.elem (enc x6)), ko (Orc.elem (enc x6)), ko (Orc.elem (enc x8)), kp hz9, kp hz9, kp hz10, kv 27 (show Am.Sub (AV.sl 2 false (List.drop 1 (List.take (Int.toNat (↑(List.length (encs A)) : Int)) (encs A)))) (AV.sl 2 false (encs (List.drop 1 A))) from (Sub.of_eq (by simp only [Go.Vec.encs_length, Go.Vec.encs_drop, Go.Vec.encs_take, Int.toNat_natCast, List.take_length]))), kp (show (0 : Int) ≤ (1 : Int) ∧ (1 : Int) ≤ (↑(List.length (encs A)) : Int) ∧ (↑(List.length (encs A)) : Int) ≤ (↑(List.length (encs A)) : Int) from (by rw [Go.Vec.encs_length]; omega)), kv 29 hz15, ko (Orc.call [] (AOut.ret (Am.bool true)) (q1 f (List.drop 1 A) (List.drop 1 B) (g + 1) (v ++ [(Prod.fst x6, tk (Prod.snd x6) (Prod.snd x8))]) ++ [AObj.box [int (Prod.fst x6), int (Prod.snd x6), int (Prod.snd x8)]])), kp hz16, kp (show YieldC P G 0 [AV.agg [int (Prod.fst x6), int (Prod.snd x6), int (Prod.snd x8)]] [jrng, AObj.box [AV.sl 2 false (encs (List.drop 1 A))], AObj.box [AV.sl 2 false (encs (List.drop 1 B))], AObj.box [AV.lit (Value.func (Fn.func f) (Array.mk []) (Array.mk []))], AObj.box [AV.own 7 g 0 (List.length v)], AObj.gone, AObj.gone, AObj.arr g 2 false (encs v), AObj.box [int (Prod.fst x6), int (Prod.snd x6), int (Prod.snd x8)]] true [jrng, AObj.box [AV.sl 2 false (encs (List.drop 1 A))], AObj.box [AV.sl 2 false (encs (List.drop 1 B))], AObj.box [AV.lit (Value.func (Fn.func f) (Array.mk []) (Array.mk []))], AObj.box [AV.own 7 (g + 1) 0 (List.length (v ++ [(Prod.fst x6, tk (Prod.snd x6) (Prod.snd x8))]))], AObj.gone, AObj.gone, AObj.arr (g + 1) 2 false (encs (v ++ [(Prod.fst x6, tk (Prod.snd x6) (Prod.snd x8))])), AObj.box [int (Prod.fst x6), int (Prod.snd x6), int (Prod.snd x8)]] from (by have h0 := (@hy (List.drop 1 A) (List.drop 1 B) (v) (g) (Prod.fst x6) (Prod.snd x6) (Prod.snd x8) (by omega)); simp only [if_pos c15] at h0; exact h0)), kf (Eq.refl false), kp (show ∀ (x : List AV), x ∈ encs (v ++ [(Prod.fst x6, tk (Prod.snd x6) (Prod.snd x8))]) → AV.idsInL [] x = true from (Go.Vec.encs_ids _))] (others 91 [0, 1, 2]) 8 h (by kernel_rfl)
          · have h := h.2 c15
            exact loop_next [kv 6 hz0, kt (decide_eq_true c1), kt (Eq.refl true), kv 32 hz1, kf (beq_eq_false_iff_ne.2 c2), kv 36 hz0, kt (decide_eq_true c1), ko (Orc.elem (enc x6)), ko (Orc.elem (enc x8)), kp hz9, kp hz10, kf (decide_eq_false c10), kv 63 hz0, kf hz14, ko (Orc.elem (enc x8)), ko (Orc.elem (enc x6)), kp hz10, kp hz9, kf (decide_eq_false c13), ko (Orc.elem (enc x6)), ko (Orc.elem (enc x6)), ko (Orc.elem (enc x8)), kp hz9, kp hz9, kp hz10, kv 27 (show Am.Sub (AV.sl 2 false (List.drop 1 (List.take (Int.toNat (↑(List.length (encs A)) : Int)) (encs A)))) (AV.sl 2 false (encs (List.drop 1 A))) from (Sub.of_eq (by simp only [Go.Vec.encs_length, Go.Vec.encs_drop, Go.Vec.encs_take, Int.toNat_natCast, List.take_length]))), kp (show (0 : Int) ≤ (1 : Int) ∧ (1 : Int) ≤ (↑(List.length (encs A)) : Int) ∧ (↑(List.length (encs A)) : Int) ≤ (↑(List.length (encs A)) : Int) from (by rw [Go.Vec.encs_length]; omega)), kv 29 hz15, ko (Orc.call [] (AOut.ret (Am.bool true)) (q1 f (List.drop 1 A) (List.drop 1 B) g v ++ [AObj.box [int (Prod.fst x6), int (Prod.snd x6), int (Prod.snd x8)]])), kp hz16, kp (show YieldC P G 0 [AV.agg [int (Prod.fst x6), int (Prod.snd x6), int (Prod.snd x8)]] [jrng, AObj.box [AV.sl 2 false (encs (List.drop 1 A))], AObj.box [AV.sl 2 false (encs (List.drop 1 B))], AObj.box [AV.lit (Value.func (Fn.func f) (Array.mk []) (Array.mk []))], AObj.box [AV.own 7 g 0 (List.length v)], AObj.gone, AObj.gone, AObj.arr g 2 false (encs v), AObj.box [int (Prod.fst x6), int (Prod.snd x6), int (Prod.snd x8)]] true [jrng, AObj.box [AV.sl 2 false (encs (List.drop 1 A))], AObj.box [AV.sl 2 false (encs (List.drop 1 B))], AObj.box [AV.lit (Value.func (Fn.func f) (Array.mk []) (Array.mk []))], AObj.box [AV.own 7 g 0 (List.length v)], AObj.gone, AObj.gone, AObj.arr g 2 false (encs v), AObj.box [int (Prod.fst x6), int (Prod.snd x6), int (Prod.snd x8)]] from (by have h0 := (@hy (List.drop 1 A) (List.drop 1 B) (v) (g) (Prod.fst x6) (Prod.snd x6) (Prod.snd x8) (by omega)); simp only [if_neg c15] at h0; exact h0)), kf (Eq.refl false), kp hz8] (others 91 [0, 1, 2]) 8 h (by kernel_rfl)
  · have h := h.2 c1
    have hz1 : Am.Sub (int (↑(List.length (encs B)) : Int)) (int (↑(List.length B) : Int)) := (Sub.of_eq (by simp only [Go.Vec.encs_length, Int.toNat_natCast]))
    by_cases c16 : ((↑(List.length B) : Int) > (0 : Int))
    · have h := h.1 c16
      have hz23 : ((↑(List.length B) : Int) == 0) = false := (decide_eq_false (by omega))
      have hz24 : ((↑(List.length A) : Int) == 0) = true := (decide_eq_true (by omega))
      obtain ⟨x19, o20, h⟩ := h
      have hz25 : (0 : Int) ≤ (0 : Int) ∧ (encs B)[Int.toNat 0]? = some (enc x19) := (el_nat o20)
      by_cases c21 : (tk 0 (Prod.snd x19) > (0 : Int))
      · have h := h.1 c21
        exact loop_next [kv 6 hz0, kf (decide_eq_false c1), kv 10 hz1, kt (decide_eq_true c16), kv 32 hz1, kf hz23, kv 36 hz0, kf (decide_eq_false c1), kf (Eq.refl false), kv 63 hz0, kt hz24, kt (Eq.refl true), ko (Orc.elem (enc x19)), ko (Orc.elem (enc x19)), kp hz25, kp hz25, kv 86 (show Am.Sub (AV.sl 2 false (List.drop 1 (List.take (Int.toNat (↑(List.length (encs B)) : Int)) (encs B)))) (AV.sl 2 false (encs (List.drop 1 B))) from (Sub.of_eq (by simp only [Go.Vec.encs_length, Go.Vec.encs_drop, Go.Vec.encs_take, Int.toNat_natCast, List.take_length]))), ko (Orc.call [] (AOut.ret (Am.bool true)) (q1 f A (List.drop 1 B) (g + 1) (v ++ [(Prod.fst x19, tk 0 (Prod.snd x19))]) ++ [AObj.box [int (Prod.fst x19), int 0, int (Prod.snd x19)]])), kp (show (0 : Int) ≤ (1 : Int) ∧ (1 : Int) ≤ (↑(List.length (encs B)) : Int) ∧ (↑(List.length (encs B)) : Int) ≤ (↑(List.length (encs B)) : Int) from (by rw [Go.Vec.encs_length]; omega)), kp (show YieldC P G 0 [AV.agg [int (Prod.fst x19), int 0, int (Prod.snd x19)]] [jrng, AObj.box [AV.sl 2 false (encs A)], AObj.box [AV.sl 2 false (encs (List.drop 1 B))], AObj.box [AV.lit (Value.func (Fn.func f) (Array.mk []) (Array.mk []))], AObj.box [AV.own 7 g 0 (List.length v)], AObj.gone, AObj.gone, AObj.arr g 2 false (encs v), AObj.box [int (Prod.fst x19), int 0, int (Prod.snd x19)]] true [jrng, AObj.box [AV.sl 2 false (encs A)], AObj.box [AV.sl 2 false (encs (List.drop 1 B))], AObj.box [AV.lit (Value.func (Fn.func f) (Array.mk []) (Array.mk []))], AObj.box [AV.own 7 (g + 1) 0 (List.length (v ++ [(Prod.fst x19, tk 0 (Prod.snd x19))]))], AObj.gone, AObj.gone, AObj.arr (g + 1) 2 false (encs (v ++ [(Prod.fst x19, tk 0 (Prod.snd x19))])), AObj.box [int (Prod.fst x19), int 0, int (Prod.snd x19)]] from (by have h0 := (@hy (A) (List.drop 1 B) (v) (g) (Prod.fst x19) (0) (Prod.snd x19) (by omega)); simp only [if_pos c21] at h0; exact h0)), kf (Eq.refl false), kp (show ∀ (x : List AV), x ∈ encs (v ++ [(Prod.fst x19, tk 0 (Prod.snd x19))]) → AV.idsInL [] x = true from (Go.Vec.encs_ids _))] (others 91 [0, 1, 2]) 8 h (by kernel_rfl)
      · have h := h.2 c21
        exact loop_next [kv 6 hz0, kf (decide_eq_false c1), kv 10 hz1, kt (decide_eq_true c16), kv 32 hz1, kf hz23, kv 36 hz0, kf (decide_eq_false c1), kf (Eq.refl false), kv 63 hz0, kt hz24, kt (Eq.refl true), ko (Orc.elem (enc x19)), ko (Orc.elem (enc x19)), kp hz25, kp hz25, kv 86 (show Am.Sub (AV.sl 2 false (List.drop 1 (List.take (Int.toNat (↑(List.length (encs B)) : Int)) (encs B)))) (AV.sl 2 false (encs (List.drop 1 B))) from (Sub.of_eq (by simp only [Go.Vec.encs_length, Go.Vec.encs_drop, Go.Vec.encs_take, Int.toNat_natCast, List.take_length]))), ko (Orc.call [] (AOut.ret (Am.bool true)) (q1 f A (List.drop 1 B) g v ++ [AObj.box [int (Prod.fst x19), int 0, int (Prod.snd x19)]])), kp (show (0 : Int) ≤ (1 : Int) ∧ (1 : Int) ≤ (↑(List.length (encs B)) : Int) ∧ (↑(List.length (encs B)) : Int) ≤ (↑(List.length (encs B)) : Int) from (by rw [Go.Vec.encs_length]; omega)), kp (show YieldC P G 0 [AV.agg [int (Prod.fst x19), int 0, int (Prod.snd x19)]] [jrng, AObj.box [AV.sl 2 false (encs A)], AObj.box [AV.sl 2 false (encs (List.drop 1 B))], AObj.box [AV.lit (Value.func (Fn.func f) (Array.mk []) (Array.mk []))], AObj.box [AV.own 7 g 0 (List.length v)], AObj.gone, AObj.gone, AObj.arr g 2 false (encs v), AObj.box [int (Prod.fst x19), int 0, int (Prod.snd x19)]] true [jrng, AObj.box [AV.sl 2 false (encs A)], AObj.box [AV.sl 2 false (encs (List.drop 1 B))], AObj.box [AV.lit (Value.func (Fn.func f) (Array.mk []) (Array.mk []))], AObj.box [AV.own 7 g 0 (List.length v)], AObj.gone, AObj.gone, AObj.arr g 2 false (encs v), AObj.box [int (Prod.fst x19), int 0, int (Prod.snd x19)]] from (by have h0 := (@hy (A) (List.drop 1 B) (v) (g) (Prod.fst x19) (0) (Prod.snd x19) (by omega)); simp only [if_neg c21] at h0; exact h0)), kf (Eq.refl false), kp hz8] (others 91 [0, 1, 2]) 8 h (by kernel_rfl)
    · have h := h.2 c16
      obtain ⟨eX, eS⟩ := h
      exact RunL.to ((show RunL P G none 5 (loopAt P 69 0) (plSt1 f A B g v) (AEx.exit 0) (St.mk (slots 91 []) [jrng, AObj.box [AV.sl 2 false (encs A)], AObj.box [AV.sl 2 false (encs B)], AObj.box [AV.lit (Value.func (Fn.func f) (Array.mk []) (Array.mk []))], AObj.box [AV.own 7 g 0 (List.length v)], AObj.gone, AObj.gone, AObj.arr g 2 false (encs v)] []) from loop_exit [kv 6 hz0, kf (decide_eq_false c1), kv 10 hz1, kf (decide_eq_false c16)] (others 91 []) 8 (by kernel_rfl))) eX (SubS.of_eq eS)

end Go.Vec

/- VECTOR, 6: what the rounds over the pairs come to; the program's Join and Meet. -/
namespace Go.Vec
set_option maxRecDepth 100000
set_option linter.unusedSimpArgs false
set_option linter.unusedVariables false
open Go Go.Am Go.Proofs Go.Seat

/-- The pairs of two lists, merged; n: at least so many as both have. -/
def prN : Nat → List D → List D → List (Int × Int × Int)
  | 0, _, _ => []
  | _ + 1, [], [] => []
  | n + 1, x :: a, [] => (x.1, x.2, 0) :: prN n a []
  | n + 1, [], y :: b => (y.1, 0, y.2) :: prN n [] b
  | n + 1, x :: a, y :: b => if x.1 < y.1 then (x.1, x.2, 0) :: prN n a (y :: b) else if y.1 < x.1 then (y.1, 0, y.2) :: prN n (x :: a) b else (x.1, x.2, y.2) :: prN n a b
theorem prN_len : ∀ (n : Nat) (a b : List D), (prN n a b).length ≤ n
  | 0, _, _ => Nat.le_refl _
  | _ + 1, [], [] => Nat.zero_le _
  | n + 1, x :: a, [] => by simp only [prN, List.length_cons]; have := prN_len n a []; omega
  | n + 1, [], y :: b => by simp only [prN, List.length_cons]; have := prN_len n [] b; omega
  | n + 1, x :: a, y :: b => by
    have h1 := prN_len n (x :: a) b
    have h2 := prN_len n a (y :: b)
    have h3 := prN_len n a b
    simp only [prN]
    split
    · simp only [List.length_cons]; omega
    · split <;> (simp only [List.length_cons]; omega)
def ruleF (tk : Int → Int → Int) (p : Int × Int × Int) : Option D := if tk p.2.1 p.2.2 > 0 then some (p.1, tk p.2.1 p.2.2) else none

/-- What one round does to what is left. -/
def prStep (A B : List D) (p : Int × Int × Int) (A' B' : List D) : Prop := A'.length + B'.length + 1 ≤ A.length + B.length ∧ A'.length ≤ A.length ∧ B'.length ≤ B.length ∧ ∀ n, prN (n + 1) A B = p :: prN n A' B'

theorem pr_arms (A B : List D) :
    (∀ x, A[0]? = some x → B.length = 0 → prStep A B (x.1, x.2, 0) (A.drop 1) B) ∧
    (∀ x y, A[0]? = some x → B[0]? = some y → x.1 < y.1 → prStep A B (x.1, x.2, 0) (A.drop 1) B) ∧
    (∀ x y, A[0]? = some x → B[0]? = some y → ¬ x.1 < y.1 → y.1 < x.1 → prStep A B (y.1, 0, y.2) A (B.drop 1)) ∧
    (∀ x y, A[0]? = some x → B[0]? = some y → ¬ x.1 < y.1 → ¬ y.1 < x.1 → prStep A B (x.1, x.2, y.2) (A.drop 1) (B.drop 1)) ∧
    (∀ y, A.length = 0 → B[0]? = some y → prStep A B (y.1, 0, y.2) A (B.drop 1)) := by
  have hd : ∀ {l : List D} {x}, l[0]? = some x → l = x :: l.drop 1 := fun {l x} h => by
    cases l with
    | nil => simp at h
    | cons y t => simp at h; simp [h]
  refine ⟨fun x hx hb => ?_, fun x y hx hy h1 => ?_, fun x y hx hy h1 h2 => ?_, fun x y hx hy h1 h2 => ?_, fun y ha hy => ?_⟩
  · have eb : B = [] := List.eq_nil_of_length_eq_zero hb
    subst eb
    have ea := hd hx
    generalize hA : A.drop 1 = A' at ea
    subst ea
    exact ⟨by simp, by simp, by simp, fun n => rfl⟩
  · have ea := hd hx
    generalize hA : A.drop 1 = A' at ea
    subst ea
    have eb := hd hy
    generalize hB : B.drop 1 = B' at eb
    subst eb
    exact ⟨by simp; omega, by simp, by simp, fun n => by simp only [prN]; rw [if_pos h1]⟩
  · have ea := hd hx
    generalize hA : A.drop 1 = A' at ea
    subst ea
    have eb := hd hy
    generalize hB : B.drop 1 = B' at eb ⊢
    subst eb
    exact ⟨by simp; omega, by simp, by simp, fun n => by simp only [prN]; rw [if_neg h1, if_pos h2]⟩
  · have ea := hd hx
    generalize hA : A.drop 1 = A' at ea ⊢
    subst ea
    have eb := hd hy
    generalize hB : B.drop 1 = B' at eb ⊢
    subst eb
    exact ⟨by simp; omega, by simp, by simp, fun n => by simp only [prN]; rw [if_neg h1, if_neg h2]⟩
  · have ea : A = [] := List.eq_nil_of_length_eq_zero ha
    subst ea
    have eb := hd hy
    generalize hB : B.drop 1 = B' at eb ⊢
    subst eb
    exact ⟨by simp, by simp, by simp, fun n => rfl⟩

noncomputable def plOut (f g : Nat) (v : List D) : St := { env := slots 91 [], H := q1 f [] [] g v }
noncomputable def plFin (f : Nat) (t : List D) : St := { env := slots 91 [], H := if t = [] then q0 f [] [] else q1 f [] [] (t.length - 1) t }

section
variable (f : Nat) (tk : Int → Int → Int)
  (hy0 : ∀ A B d x y, YieldC P G 0 [.agg [int d, int x, int y]] (q0 f A B ++ [.box [int d, int x, int y]]) true (if tk x y > 0 then q1 f A B 0 [(d, tk x y)] else q0 f A B ++ [.box [int d, int x, int y]]))
  (hy1 : ∀ A B v g d x y, v.length ≤ 3000000000 → YieldC P G 0 [.agg [int d, int x, int y]] (q1 f A B g v ++ [.box [int d, int x, int y]]) true (if tk x y > 0 then q1 f A B (g + 1) (v ++ [(d, tk x y)]) ++ [.box [int d, int x, int y]] else q1 f A B g v ++ [.box [int d, int x, int y]]))
 include hy1
theorem pl_loop1 : ∀ n A B g v, A.length + B.length ≤ n → A.length ≤ 1000000000 → B.length ≤ 1000000000 → v.length + n ≤ 3000000000 →
    RunL P G none 5 (loopAt P 69 0) (plSt1 f A B g v) (.exit 0) (plOut f (g + ((prN n A B).filterMap (ruleF tk)).length) (v ++ (prN n A B).filterMap (ruleF tk))) := by
  intro n
  induction n with
  | zero =>
    intro A B g v hn hA hB hv
    have ea : A = [] := List.eq_nil_of_length_eq_zero (by omega)
    have eb : B = [] := List.eq_nil_of_length_eq_zero (by omega)
    subst ea eb
    refine pl_w1 f tk [] [] g v (by omega) hy1 hA hB _ _ ⟨fun h => absurd h (by simp), fun _ => ⟨fun h => absurd h (by simp), fun _ => ⟨rfl, ?_⟩⟩⟩
    simp only [prN, List.filterMap_nil, List.append_nil, List.length_nil, Nat.add_zero]
    rfl
  | succ n ih =>
    intro A B g v hn hA hB hv
    obtain ⟨s1, s2, s3, s4, s5⟩ := pr_arms A B
    have fin : ∀ {p A' B'}, prStep A B p A' B' →
        (tk p.2.1 p.2.2 > 0 → RunL P G none 5 (loopAt P 69 0) (plSt1 f A' B' (g + 1) (v ++ [(p.1, tk p.2.1 p.2.2)])) (.exit 0) (plOut f (g + ((prN (n + 1) A B).filterMap (ruleF tk)).length) (v ++ (prN (n + 1) A B).filterMap (ruleF tk)))) ∧
        (¬ tk p.2.1 p.2.2 > 0 → RunL P G none 5 (loopAt P 69 0) (plSt1 f A' B' g v) (.exit 0) (plOut f (g + ((prN (n + 1) A B).filterMap (ruleF tk)).length) (v ++ (prN (n + 1) A B).filterMap (ruleF tk)))) := fun {p A' B'} h => by
      refine ⟨fun hp => ?_, fun hp => ?_⟩
      · have := ih A' B' (g + 1) (v ++ [(p.1, tk p.2.1 p.2.2)]) (by have := h.1; omega) (by have := h.2.1; omega) (by have := h.2.2.1; omega) (by simp; omega)
        have e : ruleF tk p = some (p.1, tk p.2.1 p.2.2) := if_pos hp
        rw [h.2.2.2 n, List.filterMap_cons_some e, List.length_cons, show g + (((prN n A' B').filterMap (ruleF tk)).length + 1) = g + 1 + ((prN n A' B').filterMap (ruleF tk)).length by omega, show v ++ (p.1, tk p.2.1 p.2.2) :: (prN n A' B').filterMap (ruleF tk) = v ++ [(p.1, tk p.2.1 p.2.2)] ++ (prN n A' B').filterMap (ruleF tk) by simp]
        exact this
      · have := ih A' B' g v (by have := h.1; omega) (by have := h.2.1; omega) (by have := h.2.2.1; omega) (by omega)
        have e : ruleF tk p = none := if_neg hp
        rw [h.2.2.2 n, List.filterMap_cons_none e]
        exact this
    have gx : ∀ {l : List D}, ((l.length : Int) > 0) → ∃ x, l[0]? = some x := fun h => ⟨_, List.getElem?_eq_getElem (by omega)⟩
    refine pl_w1 f tk A B g v (by omega) hy1 hA hB _ _ ⟨fun h => ?_, fun h => ⟨fun h' => ?_, fun h' => ⟨rfl, ?_⟩⟩⟩
    · obtain ⟨x, hx⟩ := gx h
      refine ⟨fun h' => ⟨x, hx, fin (s1 x hx (by omega))⟩, fun h' => ?_⟩
      obtain ⟨y, hy⟩ := gx (l := B) (by omega)
      exact ⟨x, hx, y, hy, ⟨fun h1 => fin (s2 x y hx hy h1), fun h1 => ⟨fun h2 => fin (s3 x y hx hy h1 h2), fun h2 => fin (s4 x y hx hy h1 h2)⟩⟩⟩
    · obtain ⟨y, hy⟩ := gx h'
      exact ⟨y, hy, fin (s5 y (by omega) hy)⟩
    · have ea : A = [] := List.eq_nil_of_length_eq_zero (by omega)
      have eb : B = [] := List.eq_nil_of_length_eq_zero (by omega)
      subst ea eb
      simp only [prN, List.filterMap_nil, List.append_nil, List.length_nil, Nat.add_zero]
      rfl
 include hy0
theorem pl_loop0 : ∀ n A B, A.length + B.length ≤ n → A.length ≤ 1000000000 → B.length ≤ 1000000000 → n ≤ 2000000000 →
    RunL P G none 5 (loopAt P 69 0) (plSt0 f A B) (.exit 0) (plFin f ((prN n A B).filterMap (ruleF tk))) := by
  intro n
  induction n with
  | zero =>
    intro A B hn hA hB hv
    have ea : A = [] := List.eq_nil_of_length_eq_zero (by omega)
    have eb : B = [] := List.eq_nil_of_length_eq_zero (by omega)
    subst ea eb
    refine pl_w0 f tk [] [] hy0 hA hB _ _ ⟨fun h => absurd h (by simp), fun _ => ⟨fun h => absurd h (by simp), fun _ => ⟨rfl, ?_⟩⟩⟩
    rfl
  | succ n ih =>
    intro A B hn hA hB hv
    obtain ⟨s1, s2, s3, s4, s5⟩ := pr_arms A B
    have fin : ∀ {p A' B'}, prStep A B p A' B' →
        (tk p.2.1 p.2.2 > 0 → RunL P G none 5 (loopAt P 69 0) (plSt1 f A' B' 0 [(p.1, tk p.2.1 p.2.2)]) (.exit 0) (plFin f ((prN (n + 1) A B).filterMap (ruleF tk)))) ∧
        (¬ tk p.2.1 p.2.2 > 0 → RunL P G none 5 (loopAt P 69 0) (plSt0 f A' B') (.exit 0) (plFin f ((prN (n + 1) A B).filterMap (ruleF tk)))) := fun {p A' B'} h => by
      refine ⟨fun hp => ?_, fun hp => ?_⟩
      · have := pl_loop1 f tk hy1 n A' B' 0 [(p.1, tk p.2.1 p.2.2)] (by have := h.1; omega) (by have := h.2.1; omega) (by have := h.2.2.1; omega) (by simp; omega)
        have e : ruleF tk p = some (p.1, tk p.2.1 p.2.2) := if_pos hp
        rw [h.2.2.2 n, List.filterMap_cons_some e]
        have hne : ¬ (p.1, tk p.2.1 p.2.2) :: (prN n A' B').filterMap (ruleF tk) = [] := by simp
        unfold plFin
        rw [if_neg hne]
        rw [Nat.zero_add] at this
        exact this
      · have := ih A' B' (by have := h.1; omega) (by have := h.2.1; omega) (by have := h.2.2.1; omega) (by omega)
        have e : ruleF tk p = none := if_neg hp
        rw [h.2.2.2 n, List.filterMap_cons_none e]
        exact this
    have gx : ∀ {l : List D}, ((l.length : Int) > 0) → ∃ x, l[0]? = some x := fun h => ⟨_, List.getElem?_eq_getElem (by omega)⟩
    refine pl_w0 f tk A B hy0 hA hB _ _ ⟨fun h => ?_, fun h => ⟨fun h' => ?_, fun h' => ⟨rfl, ?_⟩⟩⟩
    · obtain ⟨x, hx⟩ := gx h
      refine ⟨fun h' => ⟨x, hx, fin (s1 x hx (by omega))⟩, fun h' => ?_⟩
      obtain ⟨y, hy⟩ := gx (l := B) (by omega)
      exact ⟨x, hx, y, hy, ⟨fun h1 => fin (s2 x y hx hy h1), fun h1 => ⟨fun h2 => fin (s3 x y hx hy h1 h2), fun h2 => fin (s4 x y hx hy h1 h2)⟩⟩⟩
    · obtain ⟨y, hy⟩ := gx h'
      exact ⟨y, hy, fin (s5 y (by omega) hy)⟩
    · have ea : A = [] := List.eq_nil_of_length_eq_zero (by omega)
      have eb : B = [] := List.eq_nil_of_length_eq_zero (by omega)
      subst ea eb
      rfl
end

def mergeV (tk : Int → Int → Int) (a b : List D) : List D := (prN (a.length + b.length) a b).filterMap (ruleF tk)

theorem pl_g (a b : List D) (ha : a.length ≤ 1000000000) (hb : b.length ≤ 1000000000) : RunL P G none 5 (loopAt P 69 0) (plSt0 106 a b) (.exit 0) { env := slots 91 [], H := if mergeV gmax a b = [] then q0 106 [] [] else q1 106 [] [] ((mergeV gmax a b).length - 1) (mergeV gmax a b) } :=
  pl_loop0 106 gmax gy0 gy1 _ a b (Nat.le_refl _) ha hb (by omega)
theorem p37g_w (a b : List D) (ha : a.length ≤ 1000000000) (hb : b.length ≤ 1000000000) (h : (((mergeV gmax a b = []) → [jrng, AObj.box [AV.sl 2 false []], AObj.box [AV.sl 2 false []], AObj.box [AV.lit (Value.func (Fn.func 106) (Array.mk []) (Array.mk []))], AObj.box [nilS]] = if mergeV gmax a b = [] then q0 106 [] [] else q1 106 [] [] (List.length (mergeV gmax a b) - 1) (mergeV gmax a b)) ∧ ((¬mergeV gmax a b = []) → [jrng, AObj.box [AV.sl 2 false []], AObj.box [AV.sl 2 false []], AObj.box [AV.lit (Value.func (Fn.func 106) (Array.mk []) (Array.mk []))], AObj.box [AV.own 7 (List.length (mergeV gmax a b) - 1) 0 (List.length (mergeV gmax a b))], AObj.gone, AObj.gone, AObj.arr (List.length (mergeV gmax a b) - 1) 2 false (encs (mergeV gmax a b))] = if mergeV gmax a b = [] then q0 106 [] [] else q1 106 [] [] (List.length (mergeV gmax a b) - 1) (mergeV gmax a b)))) : CallC P G 69 [AV.yl 0, AV.ptr 1 0, AV.ptr 2 0] (q0 106 a b) (AOut.ret (AV.tup [])) (if mergeV gmax a b = [] then q0 106 [] [] else q1 106 [] [] (List.length (mergeV gmax a b) - 1) (mergeV gmax a b)) := by
  by_cases c1 : (mergeV gmax a b = [])
  · have h := h.1 c1
    have eH := h
    exact CallC.heap ((show CallC P G 69 [AV.yl 0, AV.ptr 1 0, AV.ptr 2 0] (q0 106 a b) (AOut.ret (AV.tup [])) [jrng, AObj.box [AV.sl 2 false []], AObj.box [AV.sl 2 false []], AObj.box [AV.lit (Value.func (Fn.func 106) (Array.mk []) (Array.mk []))], AObj.box [nilS]] from callC_of [kl [3, 4, 5, 6, 7, 8, 9, 10, 11, 12, 13, 14, 15, 16, 17, 18, 19, 20, 21, 22, 23, 24, 25, 26, 27, 28, 29, 30, 31, 32, 33, 34, 35, 36, 37, 38, 39, 40, 41, 42, 43, 44, 45, 46, 47, 48, 49, 50, 51, 52, 53, 54, 55, 56, 57, 58, 59, 60, 61, 62, 63, 64, 65, 66, 67, 68, 69, 70, 71, 72, 73, 74, 75, 76, 77, 78, 79, 80, 81, 82, 83, 84, 85, 86, 87, 88, 89, 90] 5 (show RunL P G none 5 (loopAt P 69 0) (St.mk (slots 91 [(0, AV.yl 0), (1, AV.ptr 1 0), (2, AV.ptr 2 0)]) [jrng, AObj.box [AV.sl 2 false (encs a)], AObj.box [AV.sl 2 false (encs b)], AObj.box [AV.lit (Value.func (Fn.func 106) (Array.mk []) (Array.mk []))], AObj.box [nilS]] []) (AEx.exit 0) (St.mk (slots 91 []) [jrng, AObj.box [AV.sl 2 false []], AObj.box [AV.sl 2 false []], AObj.box [AV.lit (Value.func (Fn.func 106) (Array.mk []) (Array.mk []))], AObj.box [nilS]] []) from (by have h0 := (@Go.Vec.pl_g (a) (b) (by omega) (by omega)); simp only [if_pos c1] at h0; exact h0))] (by kernel_rfl))) eH
  · have h := h.2 c1
    have eH := h
    exact CallC.heap ((show CallC P G 69 [AV.yl 0, AV.ptr 1 0, AV.ptr 2 0] (q0 106 a b) (AOut.ret (AV.tup [])) [jrng, AObj.box [AV.sl 2 false []], AObj.box [AV.sl 2 false []], AObj.box [AV.lit (Value.func (Fn.func 106) (Array.mk []) (Array.mk []))], AObj.box [AV.own 7 (List.length (mergeV gmax a b) - 1) 0 (List.length (mergeV gmax a b))], AObj.gone, AObj.gone, AObj.arr (List.length (mergeV gmax a b) - 1) 2 false (encs (mergeV gmax a b))] from callC_of [kl [3, 4, 5, 6, 7, 8, 9, 10, 11, 12, 13, 14, 15, 16, 17, 18, 19, 20, 21, 22, 23, 24, 25, 26, 27, 28, 29, 30, 31, 32, 33, 34, 35, 36, 37, 38, 39, 40, 41, 42, 43, 44, 45, 46, 47, 48, 49, 50, 51, 52, 53, 54, 55, 56, 57, 58, 59, 60, 61, 62, 63, 64, 65, 66, 67, 68, 69, 70, 71, 72, 73, 74, 75, 76, 77, 78, 79, 80, 81, 82, 83, 84, 85, 86, 87, 88, 89, 90] 5 (show RunL P G none 5 (loopAt P 69 0) (St.mk (slots 91 [(0, AV.yl 0), (1, AV.ptr 1 0), (2, AV.ptr 2 0)]) [jrng, AObj.box [AV.sl 2 false (encs a)], AObj.box [AV.sl 2 false (encs b)], AObj.box [AV.lit (Value.func (Fn.func 106) (Array.mk []) (Array.mk []))], AObj.box [nilS]] []) (AEx.exit 0) (St.mk (slots 91 []) [jrng, AObj.box [AV.sl 2 false []], AObj.box [AV.sl 2 false []], AObj.box [AV.lit (Value.func (Fn.func 106) (Array.mk []) (Array.mk []))], AObj.box [AV.own 7 (List.length (mergeV gmax a b) - 1) 0 (List.length (mergeV gmax a b))], AObj.gone, AObj.gone, AObj.arr (List.length (mergeV gmax a b) - 1) 2 false (encs (mergeV gmax a b))] []) from (by have h0 := (@Go.Vec.pl_g (a) (b) (by omega) (by omega)); simp only [if_neg c1] at h0; exact h0))] (by kernel_rfl))) eH

theorem p37g_c (a b : List D) (ha : a.length ≤ 1000000000) (hb : b.length ≤ 1000000000) : CallC P G 69 [.yl 0, .ptr 1 0, .ptr 2 0] (q0 106 a b) (.ret (.tup [])) (if mergeV gmax a b = [] then q0 106 [] [] else q1 106 [] [] ((mergeV gmax a b).length - 1) (mergeV gmax a b)) :=
  p37g_w a b ha hb ⟨fun h => by rw [if_pos h]; rfl, fun h => by rw [if_neg h]; rfl⟩
theorem mg_w (a b : List D) (ha : a.length ≤ 1000000000) (hb : b.length ≤ 1000000000) (he : check2E a b = 0) (h : (((mergeV gmax a b = []) → ([]) = (mergeV gmax a b)) ∧ ((¬mergeV gmax a b = []) → True))) : CallC P G 41 [AV.agg [rl 106], vec a, vec b] [] (AOut.ret (AV.tup [vec (mergeV gmax a b), int 0])) [] := by
  have hz0 := (@Go.Vec.check2_c (a) (b) (by omega) (by omega))
  have hz1 : (check2E a b != 0) = false := (congrArg Bool.not (decide_eq_true (by omega)))
  have hz2 := (@Go.Vec.pairs_c (a) (b))
  by_cases c2 : (mergeV gmax a b = [])
  · have h := h.1 c2
    have e1 := h
    exact CallC.out ((show CallC P G 41 [AV.agg [rl 106], vec a, vec b] [] (AOut.ret (AV.tup [nilS, int 0])) [] from callC_of [kc [] hz0, kf hz1, kc [] hz2, ko (Orc.range [0, 1, 2, 4, 5, 7, 8, 9, 10, 11, 12, 13, 14, 15, 16, 17, 18, 19, 20, 21, 22, 23, 24, 25, 26, 27, 28, 29, 30, 31, 32, 33, 34] 0 none AEx.normal [] []), kc [5, 2, 3, 0, 1] (show CallC P G 69 [AV.yl 0, AV.ptr 1 0, AV.ptr 2 0] [AObj.rng LoopState.ready none (slots 35 [(3, AV.ptr 3 0), (6, AV.ptr 4 0)]) (Array.mk [20]) (asgAt P 41 0) (rbodyAt P 41 0), AObj.box [AV.sl 2 false (encs a)], AObj.box [AV.sl 2 false (encs b)], AObj.box [AV.lit (Value.func (Fn.func 106) (Array.mk []) (Array.mk []))], AObj.box [nilS]] (AOut.ret (AV.tup [])) [jrng, AObj.box [AV.sl 2 false []], AObj.box [AV.sl 2 false []], AObj.box [AV.lit (Value.func (Fn.func 106) (Array.mk []) (Array.mk []))], AObj.box [nilS]] from (by have h0 := (@Go.Vec.p37g_c (a) (b) (by omega) (by omega)); simp only [if_pos c2] at h0; exact h0))] (by kernel_rfl))) (Sub.tups ⟨(Sub.nil_eq (congrArg (List.map enc) e1)), Sub.refl _, trivial⟩)
  · have h := h.2 c2
    have _ := h
    exact callC_of [kc [] hz0, kf hz1, kc [] hz2, ko (Orc.range [0, 1, 2, 4, 5, 7, 8, 9, 10, 11, 12, 13, 14, 15, 16, 17, 18, 19, 20, 21, 22, 23, 24, 25, 26, 27, 28, 29, 30, 31, 32, 33, 34] 0 none AEx.normal [] []), kc [5, 2, 3, 0, 1] (show CallC P G 69 [AV.yl 0, AV.ptr 1 0, AV.ptr 2 0] [AObj.rng LoopState.ready none (slots 35 [(3, AV.ptr 3 0), (6, AV.ptr 4 0)]) (Array.mk [20]) (asgAt P 41 0) (rbodyAt P 41 0), AObj.box [AV.sl 2 false (encs a)], AObj.box [AV.sl 2 false (encs b)], AObj.box [AV.lit (Value.func (Fn.func 106) (Array.mk []) (Array.mk []))], AObj.box [nilS]] (AOut.ret (AV.tup [])) [jrng, AObj.box [AV.sl 2 false []], AObj.box [AV.sl 2 false []], AObj.box [AV.lit (Value.func (Fn.func 106) (Array.mk []) (Array.mk []))], AObj.box [AV.own 7 (List.length (mergeV gmax a b) - 1) 0 (List.length (mergeV gmax a b))], AObj.gone, AObj.gone, AObj.arr (List.length (mergeV gmax a b) - 1) 2 false (encs (mergeV gmax a b))] from (by have h0 := (@Go.Vec.p37g_c (a) (b) (by omega) (by omega)); simp only [if_neg c2] at h0; exact h0)), ko (Orc.fz (some 34) (encs (mergeV gmax a b))), kp (show ∀ (x : List AV), x ∈ encs (mergeV gmax a b) → AV.idsInL [] x = true from (Go.Vec.encs_ids _)), kp (show List.length (mergeV gmax a b) - 1 = List.length (mergeV gmax a b) - 1 from (rfl)), kp (show List.take (List.length (mergeV gmax a b)) (List.drop 0 (encs (mergeV gmax a b))) = encs (mergeV gmax a b) from (Go.Vec.encs_all _)), kp (show List.length (encs (mergeV gmax a b)) = List.length (mergeV gmax a b) from (Go.Vec.encs_length _)), kp (show ∀ (c : List AV), c ∈ encs (mergeV gmax a b) → List.all c AV.pureB = true from (Go.Vec.encs_pure _))] (by kernel_rfl)

end Go.Vec

/- VECTOR, 3: the reference's Join, Meet, Compare and With. -/
namespace Go.Vec
set_option maxRecDepth 100000
set_option linter.unusedSimpArgs false
set_option linter.unusedVariables false
open Go Go.Am Go.Proofs Go.Seat

end Go.Vec

/- VECTOR, 7: the program's Join, Meet, With and Compare; the reference's With. -/
namespace Go.Vec
set_option maxRecDepth 100000
set_option linter.unusedSimpArgs false
set_option linter.unusedVariables false
open Go Go.Am Go.Proofs Go.Seat

theorem mg_c (a b : List D) (ha : a.length ≤ 1000000000) (hb : b.length ≤ 1000000000) (he : check2E a b = 0) : CallC P G 41 [.agg [rl 106], vec a, vec b] [] (.ret (.tup [vec (mergeV gmax a b), int 0])) [] :=
  mg_w a b ha hb he ⟨fun h => h.symm, fun _ => trivial⟩

theorem mg_e (a b : List D) (ha : a.length ≤ 1000000000) (hb : b.length ≤ 1000000000) (he : ¬ check2E a b = 0) (f : Nat) (h : True) : CallC P G 41 [AV.agg [rl f], vec a, vec b] [] (AOut.ret (AV.tup [vec [], int (check2E a b)])) [] := by
  have _ := h
  exact CallC.out ((show CallC P G 41 [AV.agg [rl f], vec a, vec b] [] (AOut.ret (AV.tup [nilS, int (check2E a b)])) [] from callC_of [kc [] (@Go.Vec.check2_c (a) (b) (by omega) (by omega)), kt (show (check2E a b != 0) = true from (congrArg Bool.not (decide_eq_false (by omega))))] (by kernel_rfl))) (Sub.tups ⟨Sub.nil _, Sub.refl _, trivial⟩)

theorem mg_ec (f : Nat) (a b : List D) (ha : a.length ≤ 1000000000) (hb : b.length ≤ 1000000000) (he : ¬ check2E a b = 0) : CallC P G 41 [.agg [rl f], vec a, vec b] [] (.ret (.tup [vec [], int (check2E a b)])) [] := mg_e a b ha hb he f trivial

/-! Join, Meet, With -/
def joinE (a b : List D) : List D := if check2E a b = 0 then mergeV gmax a b else []
theorem mg_j (a b : List D) (ha : a.length ≤ 1000000000) (hb : b.length ≤ 1000000000) : CallC P G 41 [.agg [rl 106], vec a, vec b] [] (.ret (.tup [vec (joinE a b), int (check2E a b)])) [] := by
  unfold joinE
  by_cases h : check2E a b = 0
  · rw [if_pos h, h]; exact mg_c a b ha hb h
  · rw [if_neg h]; exact mg_ec 106 a b ha hb h
theorem join_w (a b : List D) (ha : a.length ≤ 1000000000) (hb : b.length ≤ 1000000000) (h : True) : CallC P G 19 [vec a, vec b] [] (AOut.ret (AV.tup [vec (joinE a b), int (check2E a b)])) [] := by
  have _ := h
  exact callC_of [kc [] (@Go.Vec.mg_j (a) (b) (by omega) (by omega))] (by kernel_rfl)

theorem join_c (a b : List D) (ha : a.length ≤ 1000000000) (hb : b.length ≤ 1000000000) : CallC P G 19 [vec a, vec b] [] (.ret (.tup [vec (joinE a b), int (check2E a b)])) [] := join_w a b ha hb trivial

theorem with_w (a : List D) (x y : Int) (ha : a.length ≤ 1000000000) (h : True) : CallC P G 8 [vec a, dot (x, y)] [] (AOut.ret (AV.tup [vec (joinE a [(x, y)]), int (check2E a [(x, y)])])) [] := by
  have _ := h
  exact callC_of [kc [] (show CallC P G 19 [AV.sl 2 false (encs a), AV.sl 2 true [[int x, int y]]] [] (AOut.ret (AV.tup [AV.sl 2 false (encs (joinE a [(x, y)])), int (check2E a [(x, y)])])) [] from (CallC.args' (@Go.Vec.join_c (a) ([(x, y)]) (by omega) (by simp only [List.length_append, List.length_cons, List.length_nil, List.length_map] <;> omega)) ⟨Sub.refl _, Sub.loose _ _ _, trivial⟩))] (by kernel_rfl)

theorem with_c (a : List D) (x y : Int) (ha : a.length ≤ 1000000000) : CallC P G 8 [vec a, dot (x, y)] [] (.ret (.tup [vec (joinE a [(x, y)]), int (check2E a [(x, y)])])) [] := with_w a x y ha trivial

/-! The reference's -/
theorem checkE_ok {v : List D} : checkE v = 0 ↔ okB v = true := by
  unfold checkE
  by_cases h : okB v = true
  · rw [if_pos h]; simp [h]
  · rw [if_neg h]; simp [h]
/-! Compare -/
end Go.Vec

/- VECTOR, 8: Compare; the reference's With. -/
namespace Go.Vec
set_option maxRecDepth 100000
set_option linter.unusedSimpArgs false
set_option linter.unusedVariables false
open Go Go.Am Go.Proofs Go.Seat

def lessP (ps : List (Int × Int × Int)) : Bool := ps.any fun p => decide (p.2.1 < p.2.2)
def moreP (ps : List (Int × Int × Int)) : Bool := ps.any fun p => decide (p.2.1 > p.2.2)

def lessV (a b : List D) : Bool := lessP (prN (a.length + b.length) a b)
def moreV (a b : List D) : Bool := moreP (prN (a.length + b.length) a b)
def cmpV (a b : List D) : Int := if lessV a b = true then (if moreV a b = true then 2 else -1) else if moreV a b = true then 1 else 0
end Go.Vec

/- VECTOR, plain law: what the merged vectors are, with no program in sight. -/
namespace Go.Vec
set_option maxRecDepth 100000
set_option linter.unusedSimpArgs false
set_option linter.unusedVariables false
open Go Go.Am

/-- A valid vector. -/
structure Ok (v : List D) : Prop where
  dots : ∀ d ∈ v, isDotB d = true
  sorted : v.Pairwise fun p q => p.1 < q.1

theorem isDot_iff {d : D} : isDotB d = true ↔ 0 ≤ d.1 ∧ d.1 < 512 ∧ 1 ≤ d.2 ∧ d.2 ≤ 1048576 := by
  simp only [isDotB, Bool.and_eq_true, decide_eq_true_eq]
  omega

theorem okN_iff {v : List D} : ∀ n k, k + n = v.length → (okN v n k = true ↔ (∀ j, k ≤ j → ∀ x, v[j]? = some x → isDotB x = true ∧ (j = 0 ∨ ∃ y, v[j - 1]? = some y ∧ y.1 < x.1)))
  | 0, k, h => by
    simp only [okN, true_iff]
    intro j hj x hx
    rw [List.getElem?_eq_none (by omega)] at hx
    cases hx
  | n + 1, k, h => by
    have ih := okN_iff (v := v) n (k + 1) (by omega)
    have hlt : k < v.length := by omega
    simp only [okN, Bool.and_eq_true]
    rw [ih]
    have hx : v[k]? = some v[k] := List.getElem?_eq_getElem hlt
    have hat : okAt v k = true ↔ (isDotB v[k] = true ∧ (k = 0 ∨ ∃ y, v[k - 1]? = some y ∧ y.1 < v[k].1)) := by
      simp only [okAt, hx, Bool.and_eq_true, Bool.or_eq_true, beq_iff_eq]
      refine and_congr_right fun _ => or_congr_right ?_
      cases hy : v[k - 1]? with
      | none => simp
      | some y => simp
    rw [hat]
    constructor
    · rintro ⟨h1, h2⟩ j hj x hjx
      rcases Nat.lt_or_eq_of_le hj with hj | rfl
      · exact h2 j hj x hjx
      · rw [hx] at hjx; cases hjx; exact h1
    · intro h'
      exact ⟨h' k (Nat.le_refl _) _ hx, fun j hj => h' j (by omega)⟩

theorem ok_iff {v : List D} : okB v = true ↔ Ok v := by
  unfold okB
  rw [okN_iff v.length 0 (by omega)]
  constructor
  · intro h
    refine ⟨fun d hd => ?_, ?_⟩
    · obtain ⟨j, hj⟩ := List.mem_iff_getElem?.1 hd
      exact (h j (Nat.zero_le _) d hj).1
    · rw [List.pairwise_iff_getElem]
      have step : ∀ j (h1 : j + 1 < v.length), (v[j]'(by omega)).1 < v[j + 1].1 := fun j h1 => by
        rcases (h (j + 1) (Nat.zero_le _) _ (List.getElem?_eq_getElem h1)).2 with h0 | ⟨y, hy, hlt⟩
        · omega
        · rw [Nat.add_sub_cancel, List.getElem?_eq_getElem (by omega)] at hy
          have hy' := Option.some.inj hy
          rw [← hy'] at hlt
          exact hlt
      have all : ∀ m i (h1 : i + m + 1 < v.length), (v[i]'(by omega)).1 < (v[i + m + 1]).1 := by
        intro m
        induction m with
        | zero => intro i h1; exact step i h1
        | succ m ih => intro i h1; exact Int.lt_trans (ih i (by omega)) (step (i + m + 1) (by omega))
      intro i j hi hj hij
      have := all (j - i - 1) i (by omega)
      have e : i + (j - i - 1) + 1 = j := by omega
      simpa only [e] using this
  · intro h j _ x hx
    refine ⟨h.dots x (List.mem_of_getElem? hx), ?_⟩
    by_cases h0 : j = 0
    · exact .inl h0
    · right
      obtain ⟨h1, h2⟩ := List.getElem?_eq_some_iff.1 hx
      refine ⟨v[j - 1]'(by omega), List.getElem?_eq_getElem (by omega), ?_⟩
      have := (List.pairwise_iff_getElem.1 h.sorted) (j - 1) j (by omega) h1 (by omega)
      rw [h2] at this
      exact this

theorem Ok.tail {d : D} {v : List D} (h : Ok (d :: v)) : Ok v := ⟨fun x hx => h.dots x (List.mem_cons_of_mem _ hx), (List.pairwise_cons.1 h.sorted).2⟩
theorem Ok.lt {d : D} {v : List D} (h : Ok (d :: v)) : ∀ x ∈ v, d.1 < x.1 := (List.pairwise_cons.1 h.sorted).1
theorem Ok.nil : Ok [] := ⟨by simp, .nil⟩

theorem atV_ne {dev : Int} {d : D} {v : List D} (h : d.1 ≠ dev) : atV dev (d :: v) = atV dev v := if_neg h
theorem atV_not {dev : Int} : ∀ {v : List D}, (∀ d ∈ v, d.1 ≠ dev) → atV dev v = 0
  | [], _ => rfl
  | d :: v, h => by rw [atV, if_neg (h d (by simp))]; exact atV_not fun x hx => h x (List.mem_cons_of_mem _ hx)
theorem atV_mem {v : List D} (h : Ok v) : ∀ d ∈ v, atV d.1 v = d.2 := by
  induction v with
  | nil => simp
  | cons x v ih =>
    intro d hd
    rcases List.mem_cons.1 hd with rfl | hd
    · rw [atV, if_pos rfl]
    · rw [atV, if_neg (by have := h.lt d hd; omega)]
      exact ih h.tail d hd
theorem atV_pos {v : List D} (h : Ok v) {dev : Int} (hp : atV dev v ≠ 0) : ∃ d ∈ v, d.1 = dev ∧ d.2 = atV dev v := by
  by_cases hd : ∃ d ∈ v, d.1 = dev
  · obtain ⟨d, hd, rfl⟩ := hd
    exact ⟨d, hd, rfl, (atV_mem h d hd).symm⟩
  · exact absurd (atV_not fun d hm e => hd ⟨d, hm, e⟩) hp
theorem atV_range {v : List D} (h : Ok v) (dev : Int) : 0 ≤ atV dev v ∧ atV dev v ≤ 1048576 := by
  by_cases hp : atV dev v = 0
  · omega
  · obtain ⟨d, hd, _, he⟩ := atV_pos h hp
    have := isDot_iff.1 (h.dots d hd)
    omega
/-! ### The pairs -/
theorem pr_spec : ∀ n (a b : List D), a.length + b.length ≤ n → Ok a → Ok b →
    (prN n a b).Pairwise (fun p q => p.1 < q.1) ∧ (∀ p ∈ prN n a b, (∃ q ∈ a, q.1 = p.1) ∨ (∃ q ∈ b, q.1 = p.1)) ∧ (∀ p ∈ prN n a b, p.2.1 = atV p.1 a ∧ p.2.2 = atV p.1 b) ∧
    (∀ q ∈ a, ∃ p ∈ prN n a b, p.1 = q.1) ∧ (∀ q ∈ b, ∃ p ∈ prN n a b, p.1 = q.1) := by
  intro n
  induction n with
  | zero =>
    intro a b hn ha hb
    have ea : a = [] := List.eq_nil_of_length_eq_zero (by omega)
    have eb : b = [] := List.eq_nil_of_length_eq_zero (by omega)
    subst ea eb
    simp [prN]
  | succ n ih =>
    intro a b hn ha hb
    match a, b, hn, ha, hb with
    | [], [], _, _, _ => simp [prN]
    | x :: a, [], hn, ha, hb =>
      obtain ⟨i1, i2, i3, i4, _⟩ := ih a [] (by simp at hn ⊢; omega) ha.tail hb
      have low : ∀ p ∈ prN n a [], x.1 < p.1 := fun p hp => by
        rcases i2 p hp with ⟨q, hq, e⟩ | ⟨q, hq, _⟩
        · have := ha.lt q hq; omega
        · cases hq
      simp only [prN]
      refine ⟨List.pairwise_cons.2 ⟨low, i1⟩, fun p hp => ?_, fun p hp => ?_, fun q hq => ?_, fun q hq => (by cases hq)⟩
      · rcases List.mem_cons.1 hp with rfl | hp
        · exact .inl ⟨x, by simp, rfl⟩
        · exact (i2 p hp).imp (fun ⟨q, h1, h2⟩ => ⟨q, List.mem_cons_of_mem _ h1, h2⟩) id
      · rcases List.mem_cons.1 hp with rfl | hp
        · exact ⟨by rw [atV_mem ha x (by simp)], rfl⟩
        · have hne : x.1 ≠ p.1 := by have := low p hp; omega
          rw [atV_ne hne]
          exact i3 p hp
      · rcases List.mem_cons.1 hq with rfl | hq
        · exact ⟨_, List.mem_cons_self, rfl⟩
        · obtain ⟨p, h1, h2⟩ := i4 q hq
          exact ⟨p, List.mem_cons_of_mem _ h1, h2⟩
    | [], y :: b, hn, ha, hb =>
      obtain ⟨i1, i2, i3, _, i5⟩ := ih [] b (by simp at hn ⊢; omega) ha hb.tail
      have low : ∀ p ∈ prN n [] b, y.1 < p.1 := fun p hp => by
        rcases i2 p hp with ⟨q, hq, _⟩ | ⟨q, hq, e⟩
        · cases hq
        · have := hb.lt q hq; omega
      simp only [prN]
      refine ⟨List.pairwise_cons.2 ⟨low, i1⟩, fun p hp => ?_, fun p hp => ?_, fun q hq => (by cases hq), fun q hq => ?_⟩
      · rcases List.mem_cons.1 hp with rfl | hp
        · exact .inr ⟨y, by simp, rfl⟩
        · exact (i2 p hp).imp id (fun ⟨q, h1, h2⟩ => ⟨q, List.mem_cons_of_mem _ h1, h2⟩)
      · rcases List.mem_cons.1 hp with rfl | hp
        · exact ⟨rfl, by rw [atV_mem hb y (by simp)]⟩
        · have hne : y.1 ≠ p.1 := by have := low p hp; omega
          refine ⟨(i3 p hp).1, ?_⟩
          rw [atV_ne hne]
          exact (i3 p hp).2
      · rcases List.mem_cons.1 hq with rfl | hq
        · exact ⟨_, List.mem_cons_self, rfl⟩
        · obtain ⟨p, h1, h2⟩ := i5 q hq
          exact ⟨p, List.mem_cons_of_mem _ h1, h2⟩
    | x :: a, y :: b, hn, ha, hb =>
      simp only [prN]
      by_cases h1 : x.1 < y.1
      · rw [if_pos h1]
        obtain ⟨i1, i2, i3, i4, i5⟩ := ih a (y :: b) (by simp at hn ⊢; omega) ha.tail hb
        have low : ∀ p ∈ prN n a (y :: b), x.1 < p.1 := fun p hp => by
          rcases i2 p hp with ⟨q, hq, e⟩ | ⟨q, hq, e⟩
          · have := ha.lt q hq; omega
          · rcases List.mem_cons.1 hq with rfl | hq
            · omega
            · have := hb.lt q hq; omega
        refine ⟨List.pairwise_cons.2 ⟨low, i1⟩, fun p hp => ?_, fun p hp => ?_, fun q hq => ?_, fun q hq => ?_⟩
        · rcases List.mem_cons.1 hp with rfl | hp
          · exact .inl ⟨x, by simp, rfl⟩
          · exact (i2 p hp).imp (fun ⟨q, h1, h2⟩ => ⟨q, List.mem_cons_of_mem _ h1, h2⟩) id
        · rcases List.mem_cons.1 hp with rfl | hp
          · refine ⟨by rw [atV_mem ha x (by simp)], ?_⟩
            rw [atV_not fun q hq => ?_]
            rcases List.mem_cons.1 hq with rfl | hq
            · simp only; omega
            · have := hb.lt q hq; simp only; omega
          · have hne : x.1 ≠ p.1 := by have := low p hp; omega
            refine ⟨?_, (i3 p hp).2⟩
            rw [atV_ne hne]
            exact (i3 p hp).1
        · rcases List.mem_cons.1 hq with rfl | hq
          · exact ⟨_, List.mem_cons_self, rfl⟩
          · obtain ⟨p, k1, k2⟩ := i4 q hq
            exact ⟨p, List.mem_cons_of_mem _ k1, k2⟩
        · obtain ⟨p, k1, k2⟩ := i5 q hq
          exact ⟨p, List.mem_cons_of_mem _ k1, k2⟩
      · rw [if_neg h1]
        by_cases h2 : y.1 < x.1
        · rw [if_pos h2]
          obtain ⟨i1, i2, i3, i4, i5⟩ := ih (x :: a) b (by simp at hn ⊢; omega) ha hb.tail
          have low : ∀ p ∈ prN n (x :: a) b, y.1 < p.1 := fun p hp => by
            rcases i2 p hp with ⟨q, hq, e⟩ | ⟨q, hq, e⟩
            · rcases List.mem_cons.1 hq with rfl | hq
              · omega
              · have := ha.lt q hq; omega
            · have := hb.lt q hq; omega
          refine ⟨List.pairwise_cons.2 ⟨low, i1⟩, fun p hp => ?_, fun p hp => ?_, fun q hq => ?_, fun q hq => ?_⟩
          · rcases List.mem_cons.1 hp with rfl | hp
            · exact .inr ⟨y, by simp, rfl⟩
            · exact (i2 p hp).imp id (fun ⟨q, h1, h2⟩ => ⟨q, List.mem_cons_of_mem _ h1, h2⟩)
          · rcases List.mem_cons.1 hp with rfl | hp
            · refine ⟨?_, by rw [atV_mem hb y (by simp)]⟩
              rw [atV_not fun q hq => ?_]
              rcases List.mem_cons.1 hq with rfl | hq
              · simp only; omega
              · have := ha.lt q hq; simp only; omega
            · have hne : y.1 ≠ p.1 := by have := low p hp; omega
              refine ⟨(i3 p hp).1, ?_⟩
              rw [atV_ne hne]
              exact (i3 p hp).2
          · obtain ⟨p, k1, k2⟩ := i4 q hq
            exact ⟨p, List.mem_cons_of_mem _ k1, k2⟩
          · rcases List.mem_cons.1 hq with rfl | hq
            · exact ⟨_, List.mem_cons_self, rfl⟩
            · obtain ⟨p, k1, k2⟩ := i5 q hq
              exact ⟨p, List.mem_cons_of_mem _ k1, k2⟩
        · rw [if_neg h2]
          have hxy : x.1 = y.1 := by omega
          obtain ⟨i1, i2, i3, i4, i5⟩ := ih a b (by simp at hn ⊢; omega) ha.tail hb.tail
          have low : ∀ p ∈ prN n a b, x.1 < p.1 := fun p hp => by
            rcases i2 p hp with ⟨q, hq, e⟩ | ⟨q, hq, e⟩
            · have := ha.lt q hq; omega
            · have := hb.lt q hq; omega
          refine ⟨List.pairwise_cons.2 ⟨low, i1⟩, fun p hp => ?_, fun p hp => ?_, fun q hq => ?_, fun q hq => ?_⟩
          · rcases List.mem_cons.1 hp with rfl | hp
            · exact .inl ⟨x, by simp, rfl⟩
            · exact (i2 p hp).imp (fun ⟨q, h1, h2⟩ => ⟨q, List.mem_cons_of_mem _ h1, h2⟩) (fun ⟨q, h1, h2⟩ => ⟨q, List.mem_cons_of_mem _ h1, h2⟩)
          · rcases List.mem_cons.1 hp with rfl | hp
            · refine ⟨by rw [atV_mem ha x (by simp)], ?_⟩
              simp only
              rw [hxy, atV_mem hb y (by simp)]
            · have hne : x.1 ≠ p.1 := by have := low p hp; omega
              have hne2 : y.1 ≠ p.1 := by have := low p hp; omega
              rw [atV_ne hne, atV_ne hne2]
              exact i3 p hp
          · rcases List.mem_cons.1 hq with rfl | hq
            · exact ⟨_, List.mem_cons_self, rfl⟩
            · obtain ⟨p, k1, k2⟩ := i4 q hq
              exact ⟨p, List.mem_cons_of_mem _ k1, k2⟩
          · rcases List.mem_cons.1 hq with rfl | hq
            · exact ⟨_, List.mem_cons_self, hxy⟩
            · obtain ⟨p, k1, k2⟩ := i5 q hq
              exact ⟨p, List.mem_cons_of_mem _ k1, k2⟩

/-! ### Merging by a rule -/
/-- A rule that serves: between 0 and the greater, 0 at two zeros. -/
structure Rule (tk : Int → Int → Int) : Prop where
  zero : tk 0 0 = 0
  lo : ∀ x y, 0 ≤ x → 0 ≤ y → 0 ≤ tk x y
  hi : ∀ x y, x ≤ 1048576 → y ≤ 1048576 → tk x y ≤ 1048576
theorem rule_max : Rule gmax := ⟨rfl, fun x y _ _ => by unfold gmax; split <;> omega, fun x y _ _ => by unfold gmax; split <;> omega⟩
theorem merge_mem {tk : Int → Int → Int} {a b : List D} (ha : Ok a) (hb : Ok b) {d : D} (h : d ∈ mergeV tk a b) :
    d.2 = tk (atV d.1 a) (atV d.1 b) ∧ d.2 > 0 ∧ ((∃ q ∈ a, q.1 = d.1) ∨ (∃ q ∈ b, q.1 = d.1)) := by
  obtain ⟨p, hp, he⟩ := List.mem_filterMap.1 h
  obtain ⟨_, i2, i3, _, _⟩ := pr_spec _ a b (Nat.le_refl _) ha hb
  unfold ruleF at he
  split at he
  · rename_i hpos
    cases he
    obtain ⟨e1, e2⟩ := i3 p hp
    exact ⟨by rw [e1, e2], hpos, i2 p hp⟩
  · cases he
theorem merge_sorted {tk : Int → Int → Int} {a b : List D} (ha : Ok a) (hb : Ok b) : (mergeV tk a b).Pairwise fun p q => p.1 < q.1 := by
  obtain ⟨i1, _⟩ := pr_spec _ a b (Nat.le_refl _) ha hb
  unfold mergeV
  rw [List.pairwise_filterMap]
  refine i1.imp ?_
  intro p q hpq d hd c hc
  unfold ruleF at hd hc
  split at hd <;> split at hc
  · cases hd; cases hc; exact hpq
  all_goals first | (cases hc; done) | (cases hd; done)
theorem merge_ok {tk : Int → Int → Int} (hr : Rule tk) {a b : List D} (ha : Ok a) (hb : Ok b) : Ok (mergeV tk a b) := by
  refine ⟨fun d hd => ?_, merge_sorted ha hb⟩
  obtain ⟨h1, h2, h3⟩ := merge_mem ha hb hd
  rw [isDot_iff]
  have r1 := atV_range ha d.1
  have r2 := atV_range hb d.1
  have := hr.hi _ _ r1.2 r2.2
  rcases h3 with ⟨q, hq, e⟩ | ⟨q, hq, e⟩
  · have := isDot_iff.1 (ha.dots q hq); omega
  · have := isDot_iff.1 (hb.dots q hq); omega
theorem merge_at {tk : Int → Int → Int} (hr : Rule tk) {a b : List D} (ha : Ok a) (hb : Ok b) (dev : Int) : atV dev (mergeV tk a b) = tk (atV dev a) (atV dev b) := by
  obtain ⟨_, i2, i3, i4, i5⟩ := pr_spec _ a b (Nat.le_refl _) ha hb
  have r1 := atV_range ha dev
  have r2 := atV_range hb dev
  by_cases hin : (∃ q ∈ a, q.1 = dev) ∨ (∃ q ∈ b, q.1 = dev)
  · obtain ⟨p, hp, hpd⟩ : ∃ p ∈ prN (a.length + b.length) a b, p.1 = dev := by
      rcases hin with ⟨q, hq, rfl⟩ | ⟨q, hq, rfl⟩
      · exact i4 q hq
      · exact i5 q hq
    subst hpd
    obtain ⟨e1, e2⟩ := i3 p hp
    by_cases hpos : tk p.2.1 p.2.2 > 0
    · have hm : (p.1, tk p.2.1 p.2.2) ∈ mergeV tk a b := List.mem_filterMap.2 ⟨p, hp, if_pos hpos⟩
      rw [atV_mem (merge_ok hr ha hb) _ hm, ← e1, ← e2]
    · have h0 := hr.lo _ _ r1.1 r2.1
      rw [← e1, ← e2] at h0 ⊢
      have hz : tk p.2.1 p.2.2 = 0 := by omega
      rw [hz]
      refine atV_not fun d hd e => ?_
      obtain ⟨h1, h2, _⟩ := merge_mem ha hb hd
      rw [e, ← e1, ← e2] at h1
      omega
  · have z1 : atV dev a = 0 := atV_not fun d hd e => hin (.inl ⟨d, hd, e⟩)
    have z2 : atV dev b = 0 := atV_not fun d hd e => hin (.inr ⟨d, hd, e⟩)
    rw [z1, z2, hr.zero]
    refine atV_not fun d hd e => ?_
    obtain ⟨_, _, h3⟩ := merge_mem ha hb hd
    rw [e] at h3
    exact hin h3
theorem merge_len {tk : Int → Int → Int} (a b : List D) : (mergeV tk a b).length ≤ a.length + b.length :=
  Nat.le_trans (List.length_filterMap_le _ _) (prN_len _ a b)

/-! ### The order -/
theorem less_iff {a b : List D} (ha : Ok a) (hb : Ok b) : lessV a b = true ↔ ∃ dev, atV dev a < atV dev b := by
  obtain ⟨_, _, i3, _, i5⟩ := pr_spec _ a b (Nat.le_refl _) ha hb
  unfold lessV lessP
  rw [List.any_eq_true]
  constructor
  · rintro ⟨p, hp, h⟩
    obtain ⟨e1, e2⟩ := i3 p hp
    exact ⟨p.1, by rw [← e1, ← e2]; simpa using h⟩
  · rintro ⟨dev, h⟩
    have r1 := atV_range ha dev
    obtain ⟨q, hq, rfl, _⟩ := atV_pos hb (dev := dev) (by omega)
    obtain ⟨p, hp, e⟩ := i5 q hq
    obtain ⟨e1, e2⟩ := i3 p hp
    exact ⟨p, hp, by rw [e1, e2, e]; simpa using h⟩
end Go.Vec

/- BINDS, 50: plain: a context that covers all; what is put with it. -/
namespace Go.Bd
set_option maxRecDepth 100000
set_option linter.unusedSimpArgs false
set_option linter.unusedVariables false
open Go Go.Am Go.Proofs Go.Seat

theorem check_ok {c : List Vec.D} : Vec.checkE c = 0 ↔ Vec.Ok c := by rw [Vec.checkE_ok, Vec.ok_iff]
theorem ok_one {d : Vec.D} (h : Vec.isDotB d = true) : Vec.Ok [d] := ⟨fun x hx => by rw [List.mem_singleton.1 hx]; exact h, List.pairwise_singleton _ _⟩
theorem dot_valid {b : BE} (h : validB b = true) : Vec.isDotB b.dot = true := by
  simp only [validB, Bool.and_eq_true, decide_eq_true_eq] at h
  show (decide (b.dv ≥ 0) && decide (b.dv < 512) && decide (b.sq ≥ 1) && decide (b.sq ≤ 1048576)) = true
  simp only [Bool.and_eq_true, decide_eq_true_eq]
  omega
theorem covers_iff {c : List Vec.D} {d : Vec.D} : Vec.coversB c d = true ↔ d.2 ≥ 1 ∧ d.2 ≤ Vec.atV d.1 c := by simp [Vec.coversB]
theorem with_step {c : List Vec.D} {d : Vec.D} (hc : Vec.Ok c) (hd : Vec.isDotB d = true) : Vec.check2E c [d] = 0 ∧ Vec.Ok (Vec.joinE c [d]) ∧ Vec.coversB (Vec.joinE c [d]) d = true ∧ (∀ x, Vec.coversB c x = true → Vec.coversB (Vec.joinE c [d]) x = true) ∧ (Vec.joinE c [d]).length ≤ c.length + 1 := by
  have h1 := ok_one hd
  have h0 : Vec.check2E c [d] = 0 := by unfold Vec.check2E; rw [if_pos (check_ok.2 hc)]; exact check_ok.2 h1
  have e : Vec.joinE c [d] = Vec.mergeV Vec.gmax c [d] := by unfold Vec.joinE; rw [if_pos h0]
  have hat := fun dev => Vec.merge_at Vec.rule_max hc h1 dev
  have hd1 : d.2 ≥ 1 := (Vec.isDot_iff.1 hd).2.2.1
  rw [e]
  refine ⟨h0, Vec.merge_ok Vec.rule_max hc h1, ?_, fun x hx => ?_, ?_⟩
  · rw [covers_iff, hat]
    refine ⟨hd1, ?_⟩
    have : Vec.atV d.1 [d] = d.2 := if_pos rfl
    rw [this]
    unfold Vec.gmax
    split <;> omega
  · rw [covers_iff] at hx ⊢
    refine ⟨hx.1, ?_⟩
    rw [hat]
    unfold Vec.gmax
    split <;> omega
  · have := Vec.merge_len (tk := Vec.gmax) c [d]
    simpa using this
def ctxF : List Vec.D → List BE → List Vec.D
  | c, [] => c
  | c, b :: t => ctxF (Vec.joinE c [b.dot]) t
theorem ctx_all : ∀ (l : List BE) (c : List Vec.D), Vec.Ok c → (∀ b ∈ l, validB b = true) → Vec.Ok (ctxF c l) ∧ (∀ x, Vec.coversB c x = true → Vec.coversB (ctxF c l) x = true) ∧ (∀ b ∈ l, Vec.coversB (ctxF c l) b.dot = true) ∧ (ctxF c l).length ≤ c.length + l.length
  | [], c, h, _ => ⟨h, fun _ h => h, by simp, by simp [ctxF]⟩
  | b :: t, c, h, hv => by
    obtain ⟨_, s1, s2, s3, s4⟩ := with_step h (dot_valid (hv b (List.mem_cons_self ..)))
    obtain ⟨i1, i2, i3, i4⟩ := ctx_all t (Vec.joinE c [b.dot]) s1 fun a ha => hv a (List.mem_cons_of_mem _ ha)
    refine ⟨i1, fun x hx => i2 x (s3 x hx), fun a ha => ?_, by rw [ctxF, List.length_cons]; omega⟩
    rcases List.mem_cons.1 ha with rfl | ha
    · exact i2 _ s2
    · exact i3 a ha
/-- What is known by all: the rest is what bears other keys. -/
theorem rest_all {l : List BE} {c : List Vec.D} (h : ∀ b ∈ l, Vec.coversB c b.dot = true) (k : ByteArray) : rest l c k = l.filter fun b => decide (b.ky ≠ k) := by
  unfold rest
  refine List.filter_congr fun b hb => ?_
  rw [knownB, h b hb, Bool.and_true]
  by_cases e : b.ky = k <;> simp [e]
theorem rest_twice (l : List BE) (c : List Vec.D) (k : ByteArray) : rest (rest l c k) c k = rest l c k := by
  unfold rest
  rw [List.filter_filter]
  refine List.filter_congr fun b _ => ?_
  rw [Bool.and_self]
theorem fil_none {l : List BE} {c : List Vec.D} (h : ∀ b ∈ l, Vec.coversB c b.dot = true) (k : ByteArray) : fil k (rest l c k) = [] := by
  rw [rest_all h, fil, List.filter_filter, List.filter_eq_nil_iff]
  intro b _
  by_cases e : b.ky = k <;> simp [e]
theorem fil_other {l : List BE} {c : List Vec.D} (h : ∀ b ∈ l, Vec.coversB c b.dot = true) {k q : ByteArray} (hq : q ≠ k) : fil q (rest l c k) = fil q l := by
  rw [rest_all h, fil, fil, List.filter_filter]
  refine List.filter_congr fun b _ => ?_
  by_cases e : b.ky = q
  · simp [e, hq]
  · simp [e]
theorem fil_app (k : ByteArray) (a b : List BE) : fil k (a ++ b) = fil k a ++ fil k b := List.filter_append ..
theorem fil_ins (k : ByteArray) (b : BE) (x : List BE) : fil k (insB b x) = fil k (x.takeWhile fun a => lessB a b) ++ ((if b.ky = k then [b] else []) ++ fil k (x.dropWhile fun a => lessB a b)) := by
  rw [insB, fil_app, fil_cons]
theorem fil_split (k : ByteArray) (b : BE) (x : List BE) : fil k (x.takeWhile fun a => lessB a b) ++ fil k (x.dropWhile fun a => lessB a b) = fil k x := by
  rw [← fil_app, List.takeWhile_append_dropWhile]
theorem ins_other {k : ByteArray} {b : BE} (x : List BE) (h : k ≠ b.ky) : fil k (insB b x) = fil k x := by
  rw [fil_ins, if_neg (Ne.symm h), List.nil_append, fil_split]
theorem ins_own {b : BE} {x : List BE} (h : fil b.ky x = []) : fil b.ky (insB b x) = [b] := by
  have := fil_split b.ky b x
  rw [h, List.append_eq_nil_iff] at this
  rw [fil_ins, this.1, this.2, if_pos rfl]; rfl
/-- If a bind may not be put where all is known, it is not valid, or known. -/
theorem not_may {l : List BE} {c : List Vec.D} (h : ∀ b ∈ l, Vec.coversB c b.dot = true) {a : BE} (hm : mayB l c a = false) : validB a = false ∨ Vec.coversB c a.dot = true := by
  cases hv : validB a with
  | false => exact .inl rfl
  | true =>
    cases hc : Vec.coversB c a.dot with
    | true => exact .inr rfl
    | false =>
      exfalso
      rw [Bool.eq_false_iff] at hm
      exact hm (may_iff.2 ⟨hv, hc, fun b hb e => by have := h b hb; rw [e, hc] at this; cases this⟩)
end Go.Bd

/- BINDS, 51: the law Known. -/
namespace Go.Bd
set_option maxRecDepth 100000
set_option linter.unusedSimpArgs false
set_option linter.unusedVariables false
open Go Go.Am Go.Proofs Go.Seat

theorem sane_c : CallC P G 4 [] [] (.ret (bool true)) [] := sane_w trivial

def kS (l : List BE) (a : BE) (c : List Vec.D) (i : Nat) : St := { env := slots 157 [(0, bes l), (3, .ptr 0 0), (5, Vec.vec c), (35, bes l), (36, int l.length), (37, int i)], H := [.box (enc a)] }
def kSX (l : List BE) (a : BE) (c : List Vec.D) : St := { env := slots 157 [(0, bes l), (3, .ptr 0 0), (5, Vec.vec c)], H := [.box (enc a)] }
def kT (l d x : List BE) (a : BE) (ks : List ByteArray) (i : Nat) : St := { env := slots 157 [(0, bes l), (3, .ptr 0 0), (10, bes d), (14, bes x), (111, strs ks), (112, int ks.length), (113, int i)], H := [.box (enc a)] }
def kTX (d x : List BE) (a : BE) : St := { env := slots 157 [(3, .ptr 0 0), (10, bes d), (14, bes x)], H := [.box (enc a)] }

theorem kS_e (l : List BE) (a : BE) (c : List Vec.D) (i : Nat) (hi : ¬ (i : Int) < (l.length : Int)) (h : True) : RunL P G none 0 (loopAt P 3 0) (kS l a c i) (AEx.exit 0) (kSX l a c) := by
  have _ := h
  exact loop_exit [kf (show decide ((↑i : Int) < (↑(List.length l) : Int)) = false from (decide_eq_false (by omega)))] (others 157 [0, 3, 5]) 1 (by kernel_rfl)

theorem kS_w (l : List BE) (a b : BE) (c w : List Vec.D) (i : Nat) (hl : l.length ≤ 1000) (hi : (i : Int) < (l.length : Int)) (hb : l[i]? = some b) (hw : CallC P G 8 [Vec.vec c, dta b.dv b.sq] [] (.ret (.tup [Vec.vec w, int 0])) []) (ex : AEx) (s : St) (h : RunL P G none 0 (loopAt P 3 0) (St.mk (slots 157 [(0, AV.sl 5 false (encs l)), (3, AV.ptr 0 0), (5, AV.sl 2 false (Vec.encs w)), (35, AV.sl 5 false (encs l)), (36, int (↑(List.length l) : Int)), (37, int (↑(i + 1) : Int))]) [AObj.box [str (BE.ky a), int (BE.dv a), int (BE.sq a), int (BE.tm a), str (BE.vl a)]] []) ex s) : RunL P G none 0 (loopAt P 3 0) (kS l a c i) ex s := by
  exact loop_next [kt (show decide ((↑i : Int) < (↑(List.length l) : Int)) = true from (decide_eq_true (by omega))), ko (Orc.elem (enc b)), kp (show (0 : Int) ≤ (↑i : Int) ∧ (encs l)[Int.toNat (↑i : Int)]? = some (enc b) from (el_nat hb)), kc [] (@hw ), kf (Eq.refl false), kv 51 (show Am.Sub (int (IntKind.wrap IntKind.i64 ((↑i : Int) + 1))) (int (↑(i + 1) : Int)) from (Sub.of_wrap (by omega) (by omega) (by omega)))] (others 157 [0, 3, 5, 35, 36, 37]) 1 h (by kernel_rfl)

theorem kT_e (l d x : List BE) (a : BE) (ks : List ByteArray) (i : Nat) (hi : ¬ (i : Int) < (ks.length : Int)) (h : True) : RunL P G none 0 (loopAt P 3 1) (kT l d x a ks i) (AEx.exit 2) (kTX d x a) := by
  have _ := h
  exact loop_exit [kf (show decide ((↑i : Int) < (↑(List.length ks) : Int)) = false from (decide_eq_false (by omega)))] (others 157 [3, 10, 14]) 1 (by kernel_rfl)

-- NO WALK

theorem kT_w (l d x v : List BE) (a : BE) (ks : List ByteArray) (i : Nat) (k : ByteArray) (hs : ks.length ≤ 1000) (hi : (i : Int) < (ks.length : Int)) (hk : ks[i]? = some k) (hq : (ByteArray.toList k != ByteArray.toList a.ky) = true) (h1 : CallC P G 10 [bes x, str k] [] (.ret (bes v)) []) (h2 : CallC P G 10 [bes l, str k] [] (.ret (bes v)) []) (h3 : CallC P G 10 [bes d, str k] [] (.ret (bes v)) []) (h4 : CallC P G 11 [bes v, bes v] [] (.ret (bool true)) []) (ex : AEx) (s : St) (h : ((((ByteArray.toList k == ByteArray.toList (BE.ky a)) = true) → RunL P G none 0 (loopAt P 3 1) (St.mk (slots 157 [(0, AV.sl 5 false (encs l)), (3, AV.ptr 0 0), (10, AV.sl 5 false (encs d)), (14, AV.sl 5 false (encs x)), (111, AV.sl 1 false (sts ks)), (112, int (↑(List.length ks) : Int)), (113, int (↑(i + 1) : Int))]) [AObj.box [str (BE.ky a), int (BE.dv a), int (BE.sq a), int (BE.tm a), str (BE.vl a)]] []) ex s) ∧ (((ByteArray.toList k == ByteArray.toList (BE.ky a)) = false) → RunL P G none 0 (loopAt P 3 1) (St.mk (slots 157 [(0, AV.sl 5 false (encs l)), (3, AV.ptr 0 0), (10, AV.sl 5 false (encs d)), (14, AV.sl 5 false (encs x)), (111, AV.sl 1 false (sts ks)), (112, int (↑(List.length ks) : Int)), (113, int (↑(i + 1) : Int))]) [AObj.box [str (BE.ky a), int (BE.dv a), int (BE.sq a), int (BE.tm a), str (BE.vl a)]] []) ex s))) : RunL P G none 0 (loopAt P 3 1) (kT l d x a ks i) ex s := by
  have hz0 : decide ((↑i : Int) < (↑(List.length ks) : Int)) = true := (decide_eq_true (by omega))
  have hz1 : (0 : Int) ≤ (↑i : Int) ∧ (sts ks)[Int.toNat (↑i : Int)]? = some (st1 k) := (el_nat hk)
  have hz6 := (@h2 )
  have hz7 := (@h4 )
  rcases Bool.eq_false_or_eq_true ((ByteArray.toList k == ByteArray.toList (BE.ky a))) with c2 | c2
  · have h := h.1 c2
    exact loop_next [kt hz0, ko (Orc.elem (st1 k)), kp hz1, kf (show (!ByteArray.toList k == ByteArray.toList (BE.ky a)) = false from (congrArg Bool.not (c2))), kf (Eq.refl false), kv 141 (show Am.Sub (int (IntKind.wrap IntKind.i64 ((↑i : Int) + 1))) (int (↑(i + 1) : Int)) from (Sub.of_wrap (by omega) (by omega) (by omega)))] (others 157 [0, 3, 10, 14, 111, 112, 113]) 1 h (by kernel_rfl)
  · have h := h.2 c2
    exact loop_next [kt hz0, ko (Orc.elem (st1 k)), kp hz1, kt (show (!ByteArray.toList k == ByteArray.toList (BE.ky a)) = true from (congrArg Bool.not (c2))), kc [] (@h1 ), kc [] hz6, kc [] hz7, kf (Eq.refl false), kc [] (@h3 ), kc [] hz6, kc [] hz7, kf (Eq.refl false), kv 141 (show Am.Sub (int (IntKind.wrap IntKind.i64 ((↑i : Int) + 1))) (int (↑(i + 1) : Int)) from (Sub.of_wrap (by omega) (by omega) (by omega)))] (others 157 [0, 3, 10, 14, 111, 112, 113]) 1 h (by kernel_rfl)

theorem kn_0 (l : List BE) (a : BE) (hf : CallC P G 5 [bes l, nilS] [] (.ret (bool false)) []) (h : True) : CallC P G 3 [bes l, bel a] [] (AOut.ret (Am.bool true)) [] := by
  have _ := h
  exact callC_of [kc [] (@Go.Bd.sane_c ), kf (Eq.refl false), kc [] (@hf ), kt (Eq.refl true), kt (Eq.refl true), kt (Eq.refl true)] (by kernel_rfl)

theorem kn_1 (l : List BE) (a : BE) (hf : CallC P G 5 [bes l, nilS] [] (.ret (bool true)) []) (hg : CallC P G 6 [bes [a]] [] (.ret (bool false)) []) (h : True) : CallC P G 3 [bes l, bel a] [] (AOut.ret (Am.bool true)) [] := by
  have _ := h
  exact callC_of [kc [] (@Go.Bd.sane_c ), kf (Eq.refl false), kc [] (@hf ), kf (Eq.refl false), kc [] (show CallC P G 6 [AV.sl 5 true [[str (BE.ky a), int (BE.dv a), int (BE.sq a), int (BE.tm a), str (BE.vl a)]]] [] (AOut.ret (Am.bool false)) [] from (CallC.args' (@hg ) ⟨Sub.loose _ _ _, trivial⟩)), kt (Eq.refl true), kt (Eq.refl true)] (by kernel_rfl)

theorem kn_2 (l : List BE) (a : BE) (e : Int) (hf : CallC P G 5 [bes l, nilS] [] (.ret (bool true)) []) (hg : CallC P G 6 [bes [a]] [] (.ret (bool true)) []) (hc : CallC P G 7 [bes l] [] (.ret (int e)) []) (he : e ≠ 0) (h : True) : CallC P G 3 [bes l, bel a] [] (AOut.ret (Am.bool true)) [] := by
  have _ := h
  exact callC_of [kc [] (@Go.Bd.sane_c ), kf (Eq.refl false), kc [] (@hf ), kf (Eq.refl false), kc [] (show CallC P G 6 [AV.sl 5 true [[str (BE.ky a), int (BE.dv a), int (BE.sq a), int (BE.tm a), str (BE.vl a)]]] [] (AOut.ret (Am.bool true)) [] from (CallC.args' (@hg ) ⟨Sub.loose _ _ _, trivial⟩)), kf (Eq.refl false), kc [] (@hc ), kt (show (e != 0) = true from (congrArg Bool.not (decide_eq_false (by omega))))] (by kernel_rfl)

theorem kn_3 (l d : List BE) (a : BE) (c : List Vec.D) (hf : CallC P G 5 [bes l, nilS] [] (.ret (bool true)) []) (hg : CallC P G 6 [bes [a]] [] (.ret (bool true)) []) (hc : CallC P G 7 [bes l] [] (.ret (int 0)) []) (hL : RunL P G none 0 (loopAt P 3 0) (kS l a [] 0) (.exit 0) (kSX l a c)) (hD : CallC P G 9 [bes l, Vec.vec c, str a.ky] [] (.ret (.tup [bes d, int 0])) []) (hE : CallC P G 9 [bes d, Vec.vec c, str a.ky] [] (.ret (.tup [bes d, int 0])) []) (hV : CallC P G 10 [bes d, str a.ky] [] (.ret (bes [])) []) (hS : CallC P G 11 [bes d, bes d] [] (.ret (bool true)) []) (hP : CallC P G 12 [bes l, Vec.vec c, bel a] [] (.ret (.tup [bes [], int 140])) []) (hW : CallC P G 13 [bel a] [] (.ret (bool false)) []) (h : True) : CallC P G 3 [bes l, bel a] [] (AOut.ret (Am.bool true)) [] := by
  have _ := h
  exact callC_of [kc [] (@Go.Bd.sane_c ), kf (Eq.refl false), kc [] (@hf ), kf (Eq.refl false), kc [] (show CallC P G 6 [AV.sl 5 true [[str (BE.ky a), int (BE.dv a), int (BE.sq a), int (BE.tm a), str (BE.vl a)]]] [] (AOut.ret (Am.bool true)) [] from (CallC.args' (@hg ) ⟨Sub.loose _ _ _, trivial⟩)), kf (Eq.refl false), kc [] (@hc ), kf (Eq.refl false), kv 36 (show Am.Sub (int (↑(List.length (encs l)) : Int)) (int (↑(List.length l) : Int)) from (Sub.of_eq (by simp only [Go.Bd.encs_length]))), kl [1, 2, 4, 6, 7, 8, 9, 10, 11, 12, 13, 14, 15, 16, 17, 18, 19, 20, 21, 22, 23, 24, 25, 26, 27, 28, 29, 30, 31, 32, 33, 34, 38, 39, 40, 41, 42, 43, 44, 45, 46, 47, 48, 49, 50, 51, 52, 53, 54, 55, 56, 57, 58, 59, 60, 61, 62, 63, 64, 65, 66, 67, 68, 69, 70, 71, 72, 73, 74, 75, 76, 77, 78, 79, 80, 81, 82, 83, 84, 85, 86, 87, 88, 89, 90, 91, 92, 93, 94, 95, 96, 97, 98, 99, 100, 101, 102, 103, 104, 105, 106, 107, 108, 109, 110, 111, 112, 113, 114, 115, 116, 117, 118, 119, 120, 121, 122, 123, 124, 125, 126, 127, 128, 129, 130, 131, 132, 133, 134, 135, 136, 137, 138, 139, 140, 141, 142, 143, 144, 145, 146, 147, 148, 149, 150, 151, 152, 153, 154, 155, 156] 1 (show RunL P G none 0 (loopAt P 3 0) (St.mk (slots 157 [(0, AV.sl 5 false (encs l)), (3, AV.ptr 0 0), (5, AV.sl 2 true []), (35, AV.sl 5 false (encs l)), (36, int (↑(List.length l) : Int)), (37, int 0)]) [AObj.box [str (BE.ky a), int (BE.dv a), int (BE.sq a), int (BE.tm a), str (BE.vl a)]] []) (AEx.exit 0) (St.mk (slots 157 [(0, AV.sl 5 false (encs l)), (3, AV.ptr 0 0), (5, AV.sl 2 false (Vec.encs c))]) [AObj.box [str (BE.ky a), int (BE.dv a), int (BE.sq a), int (BE.tm a), str (BE.vl a)]] []) from (RunL.pre (@hL ) (SubS.slots ⟨rfl, Sub.refl _, rfl, Sub.refl _, rfl, Sub.loose _ _ _, rfl, Sub.refl _, rfl, Sub.refl _, rfl, Sub.refl _, trivial⟩))), kc [] (@hD ), kc [] (@hE ), kf (Eq.refl false), kf (Eq.refl false), kc [] (@hV ), kf (Eq.refl false), kc [] (@hS ), kf (Eq.refl false), kc [] (@hP ), kt (Eq.refl true), kt (Eq.refl true), kc [] (@hW ), kt (Eq.refl true)] (by kernel_rfl)

theorem kn_4 (l d : List BE) (a : BE) (c : List Vec.D) (hf : CallC P G 5 [bes l, nilS] [] (.ret (bool true)) []) (hg : CallC P G 6 [bes [a]] [] (.ret (bool true)) []) (hc : CallC P G 7 [bes l] [] (.ret (int 0)) []) (hL : RunL P G none 0 (loopAt P 3 0) (kS l a [] 0) (.exit 0) (kSX l a c)) (hD : CallC P G 9 [bes l, Vec.vec c, str a.ky] [] (.ret (.tup [bes d, int 0])) []) (hE : CallC P G 9 [bes d, Vec.vec c, str a.ky] [] (.ret (.tup [bes d, int 0])) []) (hV : CallC P G 10 [bes d, str a.ky] [] (.ret (bes [])) []) (hS : CallC P G 11 [bes d, bes d] [] (.ret (bool true)) []) (hP : CallC P G 12 [bes l, Vec.vec c, bel a] [] (.ret (.tup [bes [], int 140])) []) (hW : CallC P G 13 [bel a] [] (.ret (bool true)) []) (hC : CallC P G 14 [Vec.vec c, dta a.dv a.sq] [] (.ret (bool true)) []) (h : True) : CallC P G 3 [bes l, bel a] [] (AOut.ret (Am.bool true)) [] := by
  have _ := h
  exact callC_of [kc [] (@Go.Bd.sane_c ), kf (Eq.refl false), kc [] (@hf ), kf (Eq.refl false), kc [] (show CallC P G 6 [AV.sl 5 true [[str (BE.ky a), int (BE.dv a), int (BE.sq a), int (BE.tm a), str (BE.vl a)]]] [] (AOut.ret (Am.bool true)) [] from (CallC.args' (@hg ) ⟨Sub.loose _ _ _, trivial⟩)), kf (Eq.refl false), kc [] (@hc ), kf (Eq.refl false), kv 36 (show Am.Sub (int (↑(List.length (encs l)) : Int)) (int (↑(List.length l) : Int)) from (Sub.of_eq (by simp only [Go.Bd.encs_length]))), kl [1, 2, 4, 6, 7, 8, 9, 10, 11, 12, 13, 14, 15, 16, 17, 18, 19, 20, 21, 22, 23, 24, 25, 26, 27, 28, 29, 30, 31, 32, 33, 34, 38, 39, 40, 41, 42, 43, 44, 45, 46, 47, 48, 49, 50, 51, 52, 53, 54, 55, 56, 57, 58, 59, 60, 61, 62, 63, 64, 65, 66, 67, 68, 69, 70, 71, 72, 73, 74, 75, 76, 77, 78, 79, 80, 81, 82, 83, 84, 85, 86, 87, 88, 89, 90, 91, 92, 93, 94, 95, 96, 97, 98, 99, 100, 101, 102, 103, 104, 105, 106, 107, 108, 109, 110, 111, 112, 113, 114, 115, 116, 117, 118, 119, 120, 121, 122, 123, 124, 125, 126, 127, 128, 129, 130, 131, 132, 133, 134, 135, 136, 137, 138, 139, 140, 141, 142, 143, 144, 145, 146, 147, 148, 149, 150, 151, 152, 153, 154, 155, 156] 1 (show RunL P G none 0 (loopAt P 3 0) (St.mk (slots 157 [(0, AV.sl 5 false (encs l)), (3, AV.ptr 0 0), (5, AV.sl 2 true []), (35, AV.sl 5 false (encs l)), (36, int (↑(List.length l) : Int)), (37, int 0)]) [AObj.box [str (BE.ky a), int (BE.dv a), int (BE.sq a), int (BE.tm a), str (BE.vl a)]] []) (AEx.exit 0) (St.mk (slots 157 [(0, AV.sl 5 false (encs l)), (3, AV.ptr 0 0), (5, AV.sl 2 false (Vec.encs c))]) [AObj.box [str (BE.ky a), int (BE.dv a), int (BE.sq a), int (BE.tm a), str (BE.vl a)]] []) from (RunL.pre (@hL ) (SubS.slots ⟨rfl, Sub.refl _, rfl, Sub.refl _, rfl, Sub.loose _ _ _, rfl, Sub.refl _, rfl, Sub.refl _, rfl, Sub.refl _, trivial⟩))), kc [] (@hD ), kc [] (@hE ), kf (Eq.refl false), kf (Eq.refl false), kc [] (@hV ), kf (Eq.refl false), kc [] (@hS ), kf (Eq.refl false), kc [] (@hP ), kt (Eq.refl true), kt (Eq.refl true), kc [] (@hW ), kf (Eq.refl false), kc [] (@hC )] (by kernel_rfl)

theorem kn_5 (l d x : List BE) (a : BE) (c : List Vec.D) (ks : List ByteArray) (hlen : x.length = d.length + 1) (hd : d.length ≤ 1000) (hf : CallC P G 5 [bes l, nilS] [] (.ret (bool true)) []) (hg : CallC P G 6 [bes [a]] [] (.ret (bool true)) []) (hc : CallC P G 7 [bes l] [] (.ret (int 0)) []) (hL : RunL P G none 0 (loopAt P 3 0) (kS l a [] 0) (.exit 0) (kSX l a c)) (hD : CallC P G 9 [bes l, Vec.vec c, str a.ky] [] (.ret (.tup [bes d, int 0])) []) (hE : CallC P G 9 [bes d, Vec.vec c, str a.ky] [] (.ret (.tup [bes d, int 0])) []) (hV : CallC P G 10 [bes d, str a.ky] [] (.ret (bes [])) []) (hS : CallC P G 11 [bes d, bes d] [] (.ret (bool true)) []) (hP : CallC P G 12 [bes l, Vec.vec c, bel a] [] (.ret (.tup [bes x, int 0])) []) (hK : CallC P G 15 [bes l] [] (.ret (strs ks)) []) (hM : RunL P G none 0 (loopAt P 3 1) (kT l d x a ks 0) (.exit 2) (kTX d x a)) (hW : CallC P G 10 [bes x, str a.ky] [] (.ret (bes [a])) []) (hT : CallC P G 11 [bes [a], bes [a]] [] (.ret (bool true)) []) (h : ((↑(List.length x) : Int) == (↑(List.length d + 1) : Int)) = (true)) : CallC P G 3 [bes l, bel a] [] (AOut.ret (Am.bool true)) [] := by
  have e1 := h
  exact callC_out (Sub.bool_eq e1) [kc [] (@Go.Bd.sane_c ), kf (Eq.refl false), kc [] (@hf ), kf (Eq.refl false), kc [] (show CallC P G 6 [AV.sl 5 true [[str (BE.ky a), int (BE.dv a), int (BE.sq a), int (BE.tm a), str (BE.vl a)]]] [] (AOut.ret (Am.bool true)) [] from (CallC.args' (@hg ) ⟨Sub.loose _ _ _, trivial⟩)), kf (Eq.refl false), kc [] (@hc ), kf (Eq.refl false), kv 36 (show Am.Sub (int (↑(List.length (encs l)) : Int)) (int (↑(List.length l) : Int)) from (Sub.of_eq (by simp only [Go.Bd.encs_length]))), kl [1, 2, 4, 6, 7, 8, 9, 10, 11, 12, 13, 14, 15, 16, 17, 18, 19, 20, 21, 22, 23, 24, 25, 26, 27, 28, 29, 30, 31, 32, 33, 34, 38, 39, 40, 41, 42, 43, 44, 45, 46, 47, 48, 49, 50, 51, 52, 53, 54, 55, 56, 57, 58, 59, 60, 61, 62, 63, 64, 65, 66, 67, 68, 69, 70, 71, 72, 73, 74, 75, 76, 77, 78, 79, 80, 81, 82, 83, 84, 85, 86, 87, 88, 89, 90, 91, 92, 93, 94, 95, 96, 97, 98, 99, 100, 101, 102, 103, 104, 105, 106, 107, 108, 109, 110, 111, 112, 113, 114, 115, 116, 117, 118, 119, 120, 121, 122, 123, 124, 125, 126, 127, 128, 129, 130, 131, 132, 133, 134, 135, 136, 137, 138, 139, 140, 141, 142, 143, 144, 145, 146, 147, 148, 149, 150, 151, 152, 153, 154, 155, 156] 1 (show RunL P G none 0 (loopAt P 3 0) (St.mk (slots 157 [(0, AV.sl 5 false (encs l)), (3, AV.ptr 0 0), (5, AV.sl 2 true []), (35, AV.sl 5 false (encs l)), (36, int (↑(List.length l) : Int)), (37, int 0)]) [AObj.box [str (BE.ky a), int (BE.dv a), int (BE.sq a), int (BE.tm a), str (BE.vl a)]] []) (AEx.exit 0) (St.mk (slots 157 [(0, AV.sl 5 false (encs l)), (3, AV.ptr 0 0), (5, AV.sl 2 false (Vec.encs c))]) [AObj.box [str (BE.ky a), int (BE.dv a), int (BE.sq a), int (BE.tm a), str (BE.vl a)]] []) from (RunL.pre (@hL ) (SubS.slots ⟨rfl, Sub.refl _, rfl, Sub.refl _, rfl, Sub.loose _ _ _, rfl, Sub.refl _, rfl, Sub.refl _, rfl, Sub.refl _, trivial⟩))), kc [] (@hD ), kc [] (@hE ), kf (Eq.refl false), kf (Eq.refl false), kc [] (@hV ), kf (Eq.refl false), kc [] (@hS ), kf (Eq.refl false), kc [] (@hP ), kf (Eq.refl false), kc [] (@hK ), kv 112 (show Am.Sub (int (↑(List.length (sts ks)) : Int)) (int (↑(List.length ks) : Int)) from (Sub.of_eq (by simp only [Go.Bd.sts_length]))), kl [5, 11, 12, 13, 15, 52, 53, 54, 55, 56, 57, 58, 59, 60, 61, 62, 63, 64, 65, 66, 67, 68, 69, 70, 71, 72, 73, 74, 75, 76, 77, 78, 79, 80, 81, 82, 83, 84, 85, 86, 87, 88, 89, 90, 91, 92, 93, 94, 95, 96, 110] 1 (@hM ), kc [] (@hW ), kc [] (show CallC P G 11 [AV.sl 5 false [[str (BE.ky a), int (BE.dv a), int (BE.sq a), int (BE.tm a), str (BE.vl a)]], AV.sl 5 true [[str (BE.ky a), int (BE.dv a), int (BE.sq a), int (BE.tm a), str (BE.vl a)]]] [] (AOut.ret (Am.bool true)) [] from (CallC.args' (@hT ) ⟨Sub.refl _, Sub.loose _ _ _, trivial⟩)), kt (Eq.refl true), kv 151 (show Am.Sub (int (↑(List.length (encs x)) : Int)) (int (↑(List.length x) : Int)) from (Sub.of_eq (by simp only [Go.Bd.encs_length]))), kv 153 (show Am.Sub (int (↑(List.length (encs d)) : Int)) (int (↑(List.length d) : Int)) from (Sub.of_eq (by simp only [Go.Bd.encs_length]))), kv 154 (show Am.Sub (int (IntKind.wrap IntKind.i64 ((↑(List.length d) : Int) + 1))) (int (↑(List.length d + 1) : Int)) from (Sub.of_wrap (by omega) (by omega) (by omega)))] (by kernel_rfl)

end Go.Bd

/- BINDS, 53: the law Known: a key that is the value's own. -/
namespace Go.Bd
set_option maxRecDepth 100000
set_option linter.unusedSimpArgs false
set_option linter.unusedVariables false
open Go Go.Am Go.Proofs Go.Seat

theorem kT_s (l d x : List BE) (a : BE) (ks : List ByteArray) (i : Nat) (k : ByteArray) (hs : ks.length ≤ 1000) (hi : (i : Int) < (ks.length : Int)) (hk : ks[i]? = some k) (hq : (ByteArray.toList k == ByteArray.toList a.ky) = true) (ex : AEx) (s : St) (h : RunL P G none 0 (loopAt P 3 1) (St.mk (slots 157 [(0, AV.sl 5 false (encs l)), (3, AV.ptr 0 0), (10, AV.sl 5 false (encs d)), (14, AV.sl 5 false (encs x)), (111, AV.sl 1 false (sts ks)), (112, int (↑(List.length ks) : Int)), (113, int (↑(i + 1) : Int))]) [AObj.box [str (BE.ky a), int (BE.dv a), int (BE.sq a), int (BE.tm a), str (BE.vl a)]] []) ex s) : RunL P G none 0 (loopAt P 3 1) (kT l d x a ks i) ex s := by
  exact loop_next [kt (show decide ((↑i : Int) < (↑(List.length ks) : Int)) = true from (decide_eq_true (by omega))), ko (Orc.elem (st1 k)), kp (show (0 : Int) ≤ (↑i : Int) ∧ (sts ks)[Int.toNat (↑i : Int)]? = some (st1 k) from (el_nat hk)), kf (show (!ByteArray.toList k == ByteArray.toList (BE.ky a)) = false from (congrArg Bool.not (hq))), kf (Eq.refl false), kv 141 (show Am.Sub (int (IntKind.wrap IntKind.i64 ((↑i : Int) + 1))) (int (↑(i + 1) : Int)) from (Sub.of_wrap (by omega) (by omega) (by omega)))] (others 157 [0, 3, 10, 14, 111, 112, 113]) 1 h (by kernel_rfl)

end Go.Bd

/- BINDS, 52: the law Known, put together. -/
namespace Go.Bd
set_option maxRecDepth 100000
set_option linter.unusedSimpArgs false
set_option linter.unusedVariables false
open Go Go.Am Go.Proofs Go.Seat

theorem kS_loop (l : List BE) (a : BE) (hl : l.length ≤ 20) (hv : ∀ b ∈ l, validB b = true) : ∀ n i c, l.length - i = n → i ≤ l.length → Vec.Ok c → c.length ≤ i → RunL P G none 0 (loopAt P 3 0) (kS l a c i) (.exit 0) (kSX l a (ctxF c (l.drop i))) := by
  intro n
  induction n with
  | zero =>
    intro i c hn hi _ _
    rw [List.drop_eq_nil_of_le (by omega)]
    exact kS_e l a c i (by omega) trivial
  | succ n ih =>
    intro i c hn hi hc hcl
    have hlt : i < l.length := by omega
    have hb : l[i]? = some l[i] := List.getElem?_eq_getElem hlt
    obtain ⟨s0, s1, _, _, s4⟩ := with_step hc (dot_valid (hv l[i] (List.getElem_mem hlt)))
    rw [List.drop_eq_getElem_cons hlt, ctxF]
    have hw := Vec.with_c c l[i].dv l[i].sq (by omega)
    have s0 : Vec.check2E c [(l[i].dv, l[i].sq)] = 0 := s0
    rw [s0] at hw
    have s4 : (Vec.joinE c [(l[i].dv, l[i].sq)]).length ≤ c.length + 1 := s4
    exact kS_w l a _ c _ i (by omega) (by omega) hb hw _ _ (ih (i + 1) _ (by omega) (by omega) s1 (by omega))
theorem kT_loop (l d x : List BE) (a : BE) (ks : List ByteArray) (hs : ks.length ≤ 100) (hr : ∀ k, k ≠ a.ky → ∃ v, CallC P G 10 [bes x, str k] [] (.ret (bes v)) [] ∧ CallC P G 10 [bes l, str k] [] (.ret (bes v)) [] ∧ CallC P G 10 [bes d, str k] [] (.ret (bes v)) [] ∧ CallC P G 11 [bes v, bes v] [] (.ret (bool true)) []) : ∀ n i, ks.length - i = n → i ≤ ks.length → RunL P G none 0 (loopAt P 3 1) (kT l d x a ks i) (.exit 2) (kTX d x a) := by
  intro n
  induction n with
  | zero => intro i hn hi; exact kT_e l d x a ks i (by omega) trivial
  | succ n ih =>
    intro i hn hi
    have hlt : i < ks.length := by omega
    have hk : ks[i]? = some ks[i] := List.getElem?_eq_getElem hlt
    have nx := ih (i + 1) (by omega) (by omega)
    by_cases he : ks[i] = a.ky
    · exact kT_s l d x a ks i _ (by omega) (by omega) hk (by rw [str_eq, decide_eq_true he]) _ _ nx
    · obtain ⟨v, h1, h2, h3, h4⟩ := hr ks[i] he
      exact kT_w l d x v a ks i _ (by omega) (by omega) hk (by rw [bne, str_eq, decide_eq_false he]; rfl) h1 h2 h3 h4 _ _ ⟨fun _ => nx, fun _ => nx⟩
abbrev Len (l : List BE) : Prop := l.length ≤ 9223372036854775807
theorem few_l {l : List BE} (h2 : fewB l = true) : l.length ≤ 20 ∧ (∀ b ∈ l, smallB b = true) := by
  unfold fewB at h2
  rw [Bool.and_eq_true, decide_eq_true_iff] at h2
  exact ⟨by omega, fun b hb => List.all_eq_true.1 h2.1 b hb⟩
theorem same_self (x : List BE) (h : x.length ≤ 1000000000) : CallC P G 11 [bes x, bes x] [] (.ret (bool true)) [] := by
  have h := rsame_c x x h h
  rw [decide_eq_true rfl] at h
  exact h
theorem small_max {l : List BE} (h : ∀ b ∈ l, smallB b = true) : ∀ b ∈ l, b.ky.size ≤ maxLen := fun b hb => by
  have := h b hb
  simp only [smallB, Bool.and_eq_true, decide_eq_true_eq] at this
  unfold maxLen
  omega
theorem vals_f (v : List BE) (k : ByteArray) (t : List BE) (hv : v.length ≤ 10000) (h : fil k v = t) (ht : t.length ≤ 20) : CallC P G 10 [bes v, str k] [] (.ret (bes (srt [] t))) [] := by
  rw [← h]
  rw [← h] at ht
  obtain ⟨x, h⟩ := va_loop0 v k (by omega) v.length 0 (by omega) (by omega)
  rw [List.drop_zero] at h
  by_cases he : fil k v = []
  · rw [he] at h ⊢
    exact (vals_n v k ssortz_c h trivial).out (.nil 5)
  · have h' : RunL P G none 0 (loopAt P 10 0) (va0 v k 0) (.exit 0) { env := slots 25 [(4, .own 1 ((fil k v).length - 1) 0 (fil k v).length)], H := [.box (enc x), .arr ((fil k v).length - 1) 5 false (encs (fil k v))] } := by
      have := h
      rw [vaF, if_neg he, if_neg he] at this
      exact this
    exact vals_w v k x (fil k v) _ (by rw [srt_len]; simp) (ssort_c (fil k v) _ (by omega) he) h' trivial
theorem spec_known (l : List BE) (a : BE) (hl : Len l) : CallC P G 3 [bes l, bel a] [] (.ret (bool true)) [] := by
  have hf := few0_c l hl
  cases hs : fewB l with
  | false => rw [hs] at hf; exact kn_0 l a hf trivial
  | true =>
    rw [hs] at hf
    obtain ⟨h20, hsm⟩ := few_l hs
    have hg := rfew_c [a] (by simp)
    cases ht : fewB [a] with
    | false => rw [ht] at hg; exact kn_1 l a hf hg trivial
    | true =>
      rw [ht] at hg
      have hc := check_c l (by omega)
      by_cases h0 : chkE l = 0
      · rw [h0] at hc
        have hM := chk_ok.1 h0
        obtain ⟨o1, _, o3, o4⟩ := ctx_all l [] Vec.Ok.nil hM.valid
        have hL := kS_loop l a h20 hM.valid _ 0 [] rfl (by omega) Vec.Ok.nil (by simp)
        rw [List.drop_zero] at hL
        generalize ctxF [] l = c at o1 o3 o4 hL
        have hcl : c.length ≤ 20 := by simp at o4; omega
        have hck := check_ok.2 o1
        have hdl : (rest l c a.ky).length ≤ 20 := by have := (rest_sub l c a.ky).length_le; omega
        have hrm := rest_map hM c a.ky
        have hD := drop_c l c a.ky (by omega) (by omega)
        rw [drop_mk hM hck] at hD
        have hE := drop_c (rest l c a.ky) c a.ky (by omega) (by omega)
        rw [drop_mk hrm hck, rest_twice] at hE
        have hV := vals_f (rest l c a.ky) a.ky [] (by omega) (fil_none o3 a.ky) (by simp)
        have hS := same_self (rest l c a.ky) (by omega)
        have hP := put_c' l c a (by omega) (by omega)
        cases hm : mayB l c a with
        | false =>
          have hp : putR l c a = ([], 140) := by
            unfold putR
            rw [if_pos h0, if_pos hck, if_neg (by rw [hm]; decide)]
          rw [hp] at hP
          have hW := rvalid_c a
          have hC := Vec.rcovers_c c a.dv a.sq (by omega)
          cases hva : validB a with
          | false => rw [hva] at hW; exact kn_3 l _ a c hf hg hc hL hD hE hV hS hP hW trivial
          | true =>
            rw [hva] at hW
            have hco : Vec.coversB c a.dot = true := (not_may o3 hm).resolve_left (by rw [hva]; decide)
            exact kn_4 l _ a c hf hg hc hL hD hE hV hS hP hW (by rw [← hco]; exact hC) trivial
        | true =>
          rw [put_mk hM hck hm] at hP
          have hxl := (insB_perm a (rest l c a.ky)).length_eq
          rw [List.length_cons] at hxl
          have hkl := keyR_len l
          have hM2 := kT_loop l (rest l c a.ky) (insB a (rest l c a.ky)) a (keyR [] l) (by omega) (fun k hk => by
            have e1 : fil k (insB a (rest l c a.ky)) = fil k l := by rw [ins_other _ hk, fil_other o3 hk]
            have hvl := fil_len k l
            exact ⟨srt [] (fil k l), vals_f _ k _ (by omega) e1 (by omega), vals_c l k h20, vals_f _ k _ (by omega) (fil_other o3 hk) (by omega), same_self _ (by rw [srt_len]; simp; omega)⟩) _ 0 rfl (by omega)
          exact kn_5 l (rest l c a.ky) _ a c (keyR [] l) hxl (by omega) hf hg hc hL hD hE hV hS hP (keys_ok l (by omega) (small_max hsm)) hM2 (vals_f _ a.ky [a] (by omega) (ins_own (fil_none o3 a.ky)) (by simp)) (same_self [a] (by simp)) (by simp [hxl])
      · exact kn_2 l a _ hf hg hc h0 trivial
end Go.Bd

/- BINDS, 54: the law Known, as it is closed. -/
namespace Go.Bd
set_option maxRecDepth 100000
set_option linter.unusedSimpArgs false
set_option linter.unusedVariables false
open Go Go.Am Go.Proofs Go.Seat

theorem known_h (l : List BE) (a : BE) (hl : l.length ≤ 9223372036854775807) (_ : True) : CallC P G 3 [bes l, bel a] [] (.ret (Am.bool true)) [] := spec_known l a hl
end Go.Bd
