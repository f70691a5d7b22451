import Derived.Test.YtflocgjejaoeiaaG14
import Derived.Shelf.Spec.SlicesInsertGrow
import Derived.KernelRfl
/- BINDS, 13: slices.Insert of one bind, shown at the world. -/
namespace Go.Bd
set_option maxRecDepth 100000
set_option linter.unusedSimpArgs false
set_option linter.unusedVariables false
open Go Go.Am Go.Proofs Go.Seat Go.Lib

theorem run_overlaps_own {P : Program} (w : World) (tS tR e : TypeId) (ht : P.underlying tS = some (.slice e)) (size : Nat) (hz : ∀ w, (Go.sizeOf e).run P w = .ok size w)
    (a b : Addr) (la ca lb cb : Nat) (hne : a.block ≠ b.block) (tA tB : TypeId) (kA kB : Nat)
    (hsa : w.shape? a.block = some (tA, kA)) (hsb : w.shape? b.block = some (tB, kB)) (hkA : kA ≠ 0) (hkB : kB ≠ 0) (hf : ∀ o, w.frozen? ⟨b.block, o, none⟩ = false) (hb : b.spot = none) :
    (Extern.SlicesOverlaps.overlaps #[tS, tS] #[tR] #[.slice (some a) la ca, .slice (some b) lb cb]).run P w = .ok (.bool false) w := by
  have hnb : (a.block != b.block) = true := by simpa using hne
  have hnb' : (a.block == b.block) = false := by simpa using hne
  have hfb : w.frozen? b = false := by
    obtain ⟨x, y, z⟩ := b
    simp only at hb; subst hb
    exact hf y
  have hfk : w.frozen? { block := b.block, off := kB } = false := hf kB
  change Sem.run P (α := Value) (do
    let some t := (#[tS, tS] : Array TypeId)[0]? | stuck "slices.overlaps: no parameter types"
    let .slice elem ← underlying t | stuck "slices.overlaps: slice type expected"
    let size ← sizeOf elem
    match (some a : Option Addr), (some b : Option Addr) with
    | some a, some b =>
      if la = 0 ∨ lb = 0 ∨ size = 0 then pure (Value.bool false)
      else if a.block != b.block && (← frozen a) && (← frozen b) then unsupported .addressObserved
      else do
        if a.block != b.block then do
          noView a; noView b
          if ← mayBeOne a b then return Value.bool ((← choose (.extern "sameAddr.stringBytes" 2)) == 1)
        pure (Value.bool (a.block == b.block && a.off < b.off + lb * size && b.off < a.off + la * size))
    | _, _ => pure (Value.bool false)) w = _
  by_cases h0 : la = 0 ∨ lb = 0 ∨ size = 0
  · simp [run_underlying ht, hz, h0]
  · cases kB with
    | zero => exact absurd rfl hkB
    | succ kB =>
      obtain ⟨kA, rfl⟩ : ∃ k, kA = k + 1 := ⟨kA - 1, by omega⟩
      cases hfa : w.frozen? a <;> cases hfe : w.frozen? { block := a.block, off := kA + 1 } <;>
      simp [run_underlying ht, hz, h0, hnb, hnb', frozen, noView, viewAt, mayBeOne, stringish, shape, Sem.run, hsa, hsb, hfb, hfk, hfa, hfe]
/-- copy, elements of any size. -/
theorem run_copy_wide {P : Program} (w : World) (dT sT ty elem : TypeId) (sz : Nat) (b o dLen dCap : Nat) (a : Addr) (sLen sCap : Nat) (cs : List Value) (n : Nat)
    (hu : P.underlying dT = some (.slice elem)) (hs : (P.info? elem).map (·.size) = some sz) (hm : n = Nat.min sLen dLen) (hn : cs.length = n * sz)
    (hsrc : ∀ j v, cs[j]? = some v → w.cell? (a.add j) = some v) (hc : ∀ j, j < cs.length → (w.cell? ⟨b, o + j, none⟩).isSome = true) (hf : ∀ j, j < cs.length → w.frozen? ⟨b, o + j, none⟩ = false) (h1 : ∀ v ∈ cs, v.oneCell' = true) :
    (Builtin.copy_ #[dT, sT] ty #[.slice (some ⟨b, o, none⟩) dLen dCap, .slice (some a) sLen sCap]).run P w = .ok (goInt n) (w.setCells b o cs) := by
  have hl := run_loadCells_list (P := P) w a cs hsrc
  have hst := run_storeCells_cells (P := P) b o cs 0 w (by simpa using hc) (by simpa using hf) h1
  cases hq : P.info? elem with
  | none => simp [hq] at hs
  | some i =>
    have hi : i.size = sz := by simpa [hq] using hs
    simp [Builtin.copy_, run_underlying hu, Builtin.lenOf, Builtin.firstCells, sizeOf, typeInfo, hq, hi, ← hm, ← hn, hl, hst]

set_option maxHeartbeats 4000000 in
theorem ins_shift (b n c i vb vo vc : Nat) (cs vs : List Value) (w : World) (hi : i < n) (hroom : n + 1 ≤ c) (hc63 : c ≤ 9223372036854775807) (hvb : vb ≠ b) (hcl : cs.length = n * 5) (hvl : vs.length = 5)
    (hcs : ∀ j v, cs[j]? = some v → w.cell? ⟨b, j, none⟩ = some v) (hsp : ∀ j, j < (n + 1) * 5 → (w.cell? ⟨b, j, none⟩).isSome = true) (hfz : ∀ j, w.frozen? ⟨b, j, none⟩ = false)
    (hvs : ∀ j v, vs[j]? = some v → w.cell? ⟨vb, vo + j, none⟩ = some v) (h1c : ∀ v ∈ cs, v.oneCell' = true) (h1v : ∀ v ∈ vs, v.oneCell' = true)
    (tA tB : TypeId) (kA kB : Nat) (hsa : w.shape? vb = some (tA, kA)) (hsb : w.shape? b = some (tB, kB)) (hkA : kA ≠ 0) (hkB : kB ≠ 0) :
    Calls Try.prog 31 #[.slice (some ⟨b, 0, none⟩) n c, .int .i64 i, .slice (some ⟨vb, vo, none⟩) 1 vc] w fun e w' =>
      e = .returned (.slice (some ⟨b, 0, none⟩) (n + 1) c) ∧ w' = (w.drew.setCells b ((i + 1) * 5) (cs.drop (i * 5))).setCells b (i * 5) vs := by
  have hz2 : ¬ ((i : Int) = (n : Int)) := by omega
  have hsz : (Try.prog.info? 27).map (·.size) = some 5 := by kernel_rfl
  have hov : ∀ lb cb o, (callFunc 55 #[.slice (some ⟨vb, vo, none⟩) 1 vc, .slice (some ⟨b, o, none⟩) lb cb]).run Try.prog w = .ok (.value (.bool false)) w := fun lb cb o => by
    rw [run_callFunc_extern Try.func55 (by kernel_rfl) (by kernel_rfl) (by kernel_rfl) (e := Extern.SlicesOverlaps.overlaps #[22, 22] #[4]) (by kernel_rfl),
      run_overlaps_own w 22 4 27 Try.underlying22 5 Try.sizeOf27 ⟨vb, vo, none⟩ ⟨b, o, none⟩ 1 vc lb cb hvb tA tB kA kB hsa hsb hkA hkB hfz rfl]
    rfl
  have mixed : Try.prog.follows .mixedOrders = true := by kernel_rfl
  have hw1 : IntKind.i64.wrap ((i : Int) + 1) = (i : Int) + 1 := by rw [IntKind.wrap_i64]; omega
  have hw2 : IntKind.i64.wrap ((n : Int) + 1) = (n : Int) + 1 := by rw [IntKind.wrap_i64]; omega
  have hdl : (cs.drop (i * 5)).length = (n - i) * 5 := by rw [List.length_drop, hcl, Nat.sub_mul]
  have hb1 : (0 : Int) ≤ (i : Int) + 1 := by omega
  have hin : i ≤ n := by omega
  have htn : ((i : Int) + 1).toNat = i + 1 := by omega
  have hb2 : ¬ (c = i + 1) := by omega
  have hb3 : (i : Int) ≤ (n : Int) + 1 := by omega
  have hb4 : ¬ (c = i) := by omega
  have hcp1 : ∀ ty dc sc, (Builtin.copy_ #[22, 22] ty #[.slice (some ⟨b, (i + 1) * 5, none⟩) (n - i) dc, .slice (some ⟨b, i * 5, none⟩) (n + 1 - i) sc]).run Try.prog w.drew = .ok (goInt ((n - i : Nat) : Int)) (w.drew.setCells b ((i + 1) * 5) (cs.drop (i * 5))) := fun ty dc sc =>
    run_copy_wide w.drew _ _ ty 27 5 b ((i + 1) * 5) (n - i) dc ⟨b, i * 5, none⟩ (n + 1 - i) sc (cs.drop (i * 5)) (n - i) Try.underlying22 hsz (by simp only [Nat.min_def]; split <;> omega) hdl
      (fun j v hj => by rw [Addr.add_lit]; exact hcs (i * 5 + j) v (by rwa [List.getElem?_drop] at hj))
      (fun j hj => by rw [hdl] at hj; exact hsp _ (by omega)) (fun j hj => hfz _) (fun v hv => h1c v (List.mem_of_mem_drop hv))
  obtain ⟨W1, hW1⟩ : ∃ W1, W1 = w.drew.setCells b ((i + 1) * 5) (cs.drop (i * 5)) := ⟨_, rfl⟩
  have hsp1 : ∀ k, k < (n + 1) * 5 → (W1.cell? ⟨b, k, none⟩).isSome = true := fun k hk => by
    rw [hW1]
    exact isSome_setCells b _ _ _ (fun j hj => by rw [hdl] at hj; exact hsp _ (by omega)) _ (hsp k hk)
  have hcp2 : ∀ (W : World), (∀ x, W.cell? x = W1.cell? x) → (∀ x, W.frozen? x = W1.frozen? x) → ∀ ty dc, (Builtin.copy_ #[22, 22] ty #[.slice (some ⟨b, i * 5, none⟩) (n + 1 - i) dc, .slice (some ⟨vb, vo, none⟩) 1 vc]).run Try.prog W = .ok (goInt 1) (W.setCells b (i * 5) vs) := fun W hWc hWf ty dc =>
    run_copy_wide W _ _ ty 27 5 b (i * 5) (n + 1 - i) dc ⟨vb, vo, none⟩ 1 vc vs 1 Try.underlying22 hsz (by simp only [Nat.min_def]; split <;> omega) (by omega)
      (fun j v hj => by
        rw [Addr.add_lit, hWc, hW1, World.cell?_setCells_out b _ _ _ _ (fun h _ => absurd h hvb)]
        exact hvs j v hj)
      (fun j hj => by rw [hWc]; exact hsp1 _ (by omega)) (fun j hj => by rw [hWf, hW1, World.frozen?_setCells]; exact hfz _) h1v
  rw [← hW1] at hcp1
  go_enter Try.func31, Try.ntmps31
  go_wp2_with (simp only [hov])
  go_region_law_o (refine step_copy_runI rfl _ _ 22 22 rfl _ _ (by simp [Act.eval, Act.put]) (by simp [Act.eval, Act.put]) (hcp1 _ _ _) ?_)
  go_wp2_with (at_builtin; refine wpList_copy_runI _ rfl _ _ 22 22 rfl _ _ rfl rfl (hcp2 _ (fun _ => rfl) (fun _ => rfl) _ _) ?_)
  go_ret
  first | exact ⟨rfl, rfl⟩ | exact ⟨rfl, by rw [hW1]⟩
/-- The zero bind. -/
abbrev zB : Value := .agg #[.string ⟨#[]⟩, .int .i64 0, .int .i64 0, .int .i64 0, .string ⟨#[]⟩]
def rowI (cs : List Value) (n i G : Nat) : Array Value := (cs.take (i * 5)).toArray ++ Builtin.zeroCells zB.cells (n + 1 - i) ++ Builtin.zeroCells zB.cells (G - (n + 1))
theorem rowI_size (cs : List Value) (n i G : Nat) (hcl : cs.length = n * 5) (hi : i < n) (hG : n + 1 ≤ G) : (rowI cs n i G).size = G * 5 := by
  have : zB.cells.size = 5 := rfl
  simp [rowI, Builtin.zeroCells, this, hcl]
  omega
set_option maxHeartbeats 4000000 in
theorem ins_grow (b n c i vb vo vc : Nat) (cs vs : List Value) (w : World) (hi : i < n) (hnc : n ≤ c) (hroom : c < n + 1) (hbig : (n + 1) * 56 ≤ 140737488355328) (hcl : cs.length = n * 5) (hvl : vs.length = 5)
    (hcs : ∀ j v, cs[j]? = some v → w.cell? ⟨b, j, none⟩ = some v)
    (hvs : ∀ j v, vs[j]? = some v → w.cell? ⟨vb, vo + j, none⟩ = some v) (h1c : ∀ v ∈ cs, v.oneCell' = true) (h1v : ∀ v ∈ vs, v.oneCell' = true) :
    Calls Try.prog 31 #[.slice (some ⟨b, 0, none⟩) n c, .int .i64 i, .slice (some ⟨vb, vo, none⟩) 1 vc] w fun e w' =>
      e = .returned (.slice (some ⟨w.heap.size, 0, none⟩) (n + 1) (grownCap w (n + 1) c 27)) ∧
      w' = (((w.alloc (.cells (rowI cs n i (grownCap w (n + 1) c 27)) 27)).drew.setCells w.heap.size (i * 5) vs).drew).setCells w.heap.size ((i + 1) * 5) (cs.drop (i * 5)) := by
  have hz2 : ¬ ((i : Int) = (n : Int)) := by omega
  have hz3 : (c : Int) < (n : Int) + 1 := by omega
  have hsz : (Try.prog.info? 27).map (·.size) = some 5 := by kernel_rfl
  have hsb : (Try.prog.info? 27).map (fun i => (i.size, i.bytes, i.zero)) = some (5, 56, some zB) := by kernel_rfl
  obtain ⟨i0, hi0, hzs, hzb, hz0⟩ : ∃ i0, Try.prog.info? 27 = some i0 ∧ i0.size = 5 ∧ i0.bytes = 56 ∧ i0.zero = some zB := by
    cases hq : Try.prog.info? 27 with
    | none => rw [hq] at hsb; cases hsb
    | some i0 =>
      rw [hq] at hsb
      simp only [Option.map_some, Option.some.injEq, Prod.mk.injEq] at hsb
      exact ⟨i0, rfl, hsb.1, hsb.2.1, hsb.2.2⟩
  have mixed : Try.prog.follows .mixedOrders = true := by kernel_rfl
  have hbw : b < w.heap.size := block_lt_of_cell (hcs 0 _ (List.getElem?_eq_getElem (by omega)))
  have hvw : vb < w.heap.size := block_lt_of_cell (hvs 0 _ (List.getElem?_eq_getElem (by omega)))
  have hkk : (n : Int) + 1 - (i : Int) = ((n + 1 - i : Nat) : Int) := by omega
  have hik : i + (n + 1 - i) = n + 1 := by omega
  have hold : (Builtin.firstCells i0.size i (.slice (some ⟨b, 0, none⟩) i c)).run Try.prog w.drew = .ok (cs.take (i * 5)).toArray w.drew := by
    rw [hzs]
    exact run_firstCells_some w.drew 5 i ⟨b, 0, none⟩ i c (cs.take (i * 5)) (by rw [List.length_take]; omega) (fun j v hj => by
      rw [Addr.add_lit, Nat.zero_add]
      rw [List.getElem?_take] at hj
      split at hj
      · exact hcs j v hj
      · cases hj)
  have hrz : ∀ ty, (Builtin.append_ #[22, 3] ty #[.slice (some ⟨b, 0, none⟩) i c, .int .i64 ((n : Int) + 1 - (i : Int))]).run Try.prog w =
      .ok (.slice (some ⟨w.heap.size, 0, none⟩) (n + 1) (grownCap w (n + 1) c 27)) (w.drew.alloc (.cells (rowI cs n i (grownCap w (n + 1) c 27)) 27)) := fun ty => by
    have h := Lib.run_append_grow_zeros w 22 3 ty 27 i0 zB .i64 .i64 Try.underlying22 Try.underlying3 hi0 hz0 (some ⟨b, 0, none⟩) i c (cs.take (i * 5)) hold (n + 1 - i) (by omega) (by omega) (by omega) (by omega) (by rw [hzb]; omega) (by rw [hzb, hik]; exact growslice_fits hroom hbig)
    rw [hik] at h
    rw [hkk]
    exact h
  obtain ⟨G, hG⟩ : ∃ G, G = grownCap w (n + 1) c 27 := ⟨_, rfl⟩
  have hGn : n + 1 ≤ G := by rw [hG]; exact grownCap_ge w _ _ _
  have hG63 : G ≤ 9223372036854775807 := by
    have := grownCap_le_maxLen w (n + 1) c 27 (by unfold maxLen; omega)
    rw [← hG] at this
    unfold maxLen at this
    omega
  obtain ⟨ROW, hROW⟩ : ∃ ROW : Array Value, ROW = rowI cs n i G := ⟨_, rfl⟩
  rw [← hG] at hrz ⊢
  rw [← hROW] at hrz ⊢
  have hRl : ROW.size = G * 5 := by rw [hROW]; exact rowI_size cs n i G hcl hi hGn
  obtain ⟨W1, hW1⟩ : ∃ W1, W1 = w.drew.alloc (.cells ROW 27) := ⟨_, rfl⟩
  rw [← hW1] at hrz
  have hN : ∀ j, j < (n + 1) * 5 → (W1.cell? ⟨w.heap.size, j, none⟩).isSome = true := fun j hj => by
    rw [hW1, World.cell?_alloc_at (w := w.drew) ROW _ w.heap.size j rfl, Array.getElem?_eq_getElem (by omega)]; rfl
  have hNf : ∀ j, W1.frozen? ⟨w.heap.size, j, none⟩ = false := fun j => by rw [hW1]; exact World.frozen?_alloc_at (w := w.drew) ROW _ w.heap.size j rfl
  have hOb : ∀ j v, w.cell? ⟨b, j, none⟩ = some v → W1.cell? ⟨b, j, none⟩ = some v := fun j v h => by rw [hW1, World.cell?_alloc_past (w := w.drew) _ b j hbw]; exact h
  have hOv : ∀ j v, w.cell? ⟨vb, j, none⟩ = some v → W1.cell? ⟨vb, j, none⟩ = some v := fun j v h => by rw [hW1, World.cell?_alloc_past (w := w.drew) _ vb j hvw]; exact h
  have hcpA : ∀ (W : World), (∀ x, W.cell? x = W1.cell? x) → (∀ x, W.frozen? x = W1.frozen? x) → ∀ ty dc, (Builtin.copy_ #[22, 22] ty #[.slice (some ⟨w.heap.size, i * 5, none⟩) (n + 1 - i) dc, .slice (some ⟨vb, vo, none⟩) 1 vc]).run Try.prog W = .ok (goInt 1) (W.setCells w.heap.size (i * 5) vs) := fun W hWc hWf ty dc =>
    run_copy_wide W _ _ ty 27 5 w.heap.size (i * 5) (n + 1 - i) dc ⟨vb, vo, none⟩ 1 vc vs 1 Try.underlying22 hsz (by simp only [Nat.min_def]; split <;> omega) (by omega)
      (fun j v hj => by rw [Addr.add_lit, hWc]; exact hOv _ v (hvs j v hj))
      (fun j hj => by rw [hWc]; exact hN _ (by omega)) (fun j hj => by rw [hWf]; exact hNf _) h1v
  have hGi : ¬ (G = i) := by omega
  have hGim : ¬ (G = i + 1) := by omega
  have hci : ¬ (c = i) := by omega
  have hbN : b ≠ w.heap.size := by omega
  have hdl : (cs.drop (i * 5)).length = (n - i) * 5 := by rw [List.length_drop, hcl, Nat.sub_mul]
  have hcpB : ∀ (W : World), (∀ x, W.cell? x = (W1.setCells w.heap.size (i * 5) vs).cell? x) → (∀ x, W.frozen? x = (W1.setCells w.heap.size (i * 5) vs).frozen? x) → ∀ ty dc sc, (Builtin.copy_ #[22, 22] ty #[.slice (some ⟨w.heap.size, (i + 1) * 5, none⟩) (n - i) dc, .slice (some ⟨b, i * 5, none⟩) (n - i) sc]).run Try.prog W = .ok (goInt ((n - i : Nat) : Int)) (W.setCells w.heap.size ((i + 1) * 5) (cs.drop (i * 5))) := fun W hWc hWf ty dc sc =>
    run_copy_wide W _ _ ty 27 5 w.heap.size ((i + 1) * 5) (n - i) dc ⟨b, i * 5, none⟩ (n - i) sc (cs.drop (i * 5)) (n - i) Try.underlying22 hsz (by simp only [Nat.min_def]; split <;> omega) hdl
      (fun j v hj => by
        rw [Addr.add_lit, hWc, World.cell?_setCells_out _ _ _ _ _ (fun h _ => absurd h hbN)]
        exact hOb _ v (hcs (i * 5 + j) v (by rwa [List.getElem?_drop] at hj)))
      (fun j hj => by rw [hdl] at hj; rw [hWc]; exact isSome_setCells _ _ _ _ (fun t ht => hN _ (by omega)) _ (hN _ (by omega)))
      (fun j hj => by rw [hWf, World.frozen?_setCells]; exact hNf _) (fun v hv => h1c v (List.mem_of_mem_drop hv))
  subst hW1
  have hE1 : ∀ x, ((w.alloc (.cells ROW 27)).drew).cell? x = (w.drew.alloc (.cells ROW 27)).cell? x := fun x => rfl
  have hE2 : ∀ x, ((w.alloc (.cells ROW 27)).drew).frozen? x = (w.drew.alloc (.cells ROW 27)).frozen? x := fun x => rfl
  have hF1 : ∀ x, (((w.alloc (.cells ROW 27)).drew.setCells w.heap.size (i * 5) vs).drew).cell? x = ((w.drew.alloc (.cells ROW 27)).setCells w.heap.size (i * 5) vs).cell? x := fun x => rfl
  have hF2 : ∀ x, (((w.alloc (.cells ROW 27)).drew.setCells w.heap.size (i * 5) vs).drew).frozen? x = ((w.drew.alloc (.cells ROW 27)).setCells w.heap.size (i * 5) vs).frozen? x := fun x => rfl
  have hw1 : IntKind.i64.wrap ((i : Int) + 1) = (i : Int) + 1 := by rw [IntKind.wrap_i64]; omega
  have hb1 : (0 : Int) ≤ (i : Int) + 1 := by omega
  have hin : i ≤ n := by omega
  have htn : ((i : Int) + 1).toNat = i + 1 := by omega
  have hb3 : (i : Int) ≤ (n : Int) := by omega
  clear hkk hik hold hROW hG hRl
  go_enter Try.func31, Try.ntmps31
  go_wp2_with (first
    | (at_builtin; refine Lib.wpList_append_run _ rfl _ _ _ _ rfl _ _ rfl rfl _ _ (hrz _) ?_)
    | (at_builtin; refine wpList_copy_runI _ rfl _ _ 22 22 rfl _ _ rfl rfl (hcpA _ hE1 hE2 _ _) ?_)
    | (at_builtin; refine wpList_copy_runI _ rfl _ _ 22 22 rfl _ _ rfl rfl (hcpB _ (fun _ => rfl) (fun _ => rfl) _ _ _) ?_))
  go_region_law_o (refine step_copy_runI rfl _ _ 22 22 rfl (.slice (some ⟨w.heap.size, (i + 1) * 5, none⟩) (n - i) (G - (i + 1))) (.slice (some ⟨b, i * 5, none⟩) (n - i) (c - i)) (by simp [Act.eval, Act.put]) (by simp [Act.eval, Act.put]) (hcpB _ hF1 hF2 3 (G - (i + 1)) (c - i)) ?_)
  go_wp2
  go_ret
  exact ⟨rfl, rfl⟩
end Go.Bd

/- BINDS, 14: slices.Insert's contract inside a row. -/
namespace Go.Bd
set_option maxRecDepth 100000
set_option linter.unusedSimpArgs false
set_option linter.unusedVariables false
open Go Go.Am Go.Proofs Go.Seat Go.Lib

theorem setCells_same (b : Nat) : ∀ (vs : List Value) (o : Nat) (w : World), (w.setCells b o vs).os = w.os ∧ (w.setCells b o vs).tape = w.tape ∧ (w.setCells b o vs).output = w.output ∧ (w.setCells b o vs).drawn = w.drawn ∧ (w.setCells b o vs).heap.size = w.heap.size ∧ ∀ i, i ≠ b → (w.setCells b o vs).heap[i]? = w.heap[i]?
  | [], _, _ => ⟨rfl, rfl, rfl, rfl, rfl, fun _ _ => rfl⟩
  | v :: r, o, w => by
    obtain ⟨h1, h2, h3, h4, h5, h6⟩ := setCells_same b r (o + 1) (w.setCell ⟨b, o, none⟩ v)
    rw [World.setCells]
    refine ⟨h1, h2, h3, h4, by rw [h5]; simp [World.setCell], fun i hi => ?_⟩
    rw [h6 i hi]
    simp [World.setCell, Array.getElem?_modify, Ne.symm hi]

/-- The cells of a bind. -/
def encW (b : BE) : List Value := [.string b.ky, .int .i64 b.dv, .int .i64 b.sq, .int .i64 b.tm, .string b.vl]
def fl (l : List BE) : List Value := l.flatMap encW
theorem encW_len (b : BE) : (encW b).length = 5 := rfl
theorem encW_one (b : BE) : ∀ v ∈ encW b, v.oneCell' = true := by
  intro v hv
  simp only [encW, List.mem_cons, List.not_mem_nil, or_false] at hv
  rcases hv with h | h | h | h | h <;> subst h <;> rfl
theorem fl_cons (b : BE) (l : List BE) : fl (b :: l) = encW b ++ fl l := rfl
theorem fl_append (a b : List BE) : fl (a ++ b) = fl a ++ fl b := by simp [fl]
theorem fl_len : ∀ l : List BE, (fl l).length = l.length * 5
  | [] => rfl
  | b :: l => by rw [fl_cons, List.length_append, fl_len l, encW_len, List.length_cons]; omega
theorem fl_one (l : List BE) : ∀ v ∈ fl l, v.oneCell' = true := by
  intro v hv
  obtain ⟨b, _, h⟩ := List.mem_flatMap.1 hv
  exact encW_one b v h
theorem fl_get : ∀ {l : List BE} {k j : Nat} (hk : k < l.length), j < 5 → (fl l)[k * 5 + j]? = some ((encW l[k]).getD j undef)
  | b :: l, 0, j, _, hj => by
    rw [fl_cons, Nat.zero_mul, Nat.zero_add, List.getElem?_append_left (by rw [encW_len]; exact hj), List.getElem?_eq_getElem (by rw [encW_len]; exact hj)]
    simp [List.getD_eq_getElem?_getD, List.getElem?_eq_getElem (show j < (encW b).length by rw [encW_len]; exact hj)]
  | b :: l, k + 1, j, hk, hj => by
    rw [fl_cons, List.getElem?_append_right (by rw [encW_len]; omega), encW_len, show (k + 1) * 5 + j - 5 = k * 5 + j by omega]
    exact fl_get (by simpa using hk) hj
theorem fl_take (l : List BE) (i : Nat) : fl (l.take i) = (fl l).take (i * 5) := by
  rcases Nat.lt_or_ge l.length i with h | h
  · rw [List.take_of_length_le (by omega), List.take_of_length_le (by rw [fl_len]; omega)]
  · conv => rhs; rw [← List.take_append_drop i l, fl_append]
    rw [List.take_left' (by rw [fl_len, List.length_take]; omega)]
theorem fl_drop (l : List BE) (i : Nat) : fl (l.drop i) = (fl l).drop (i * 5) := by
  rcases Nat.lt_or_ge l.length i with h | h
  · rw [List.drop_of_length_le (by omega), List.drop_of_length_le (by rw [fl_len]; omega)]; rfl
  · conv => rhs; rw [← List.take_append_drop i l, fl_append]
    rw [List.drop_left' (by rw [fl_len, List.length_take]; omega)]

theorem enc_prep (w : World) (M : Nat → Prop) (b : BE) {j : Nat} (hj : j < 5) : PRep w M ((enc b).getD j .dead) ((encW b).getD j undef) := by
  match j, hj with
  | 0, _ => exact .lit _
  | 1, _ => exact .lit _
  | 2, _ => exact .lit _
  | 3, _ => exact .lit _
  | 4, _ => exact .lit _
theorem enc_val {V : View} {b : BE} {j : Nat} {v : Value} (hj : j < 5) (h : Rep V ((enc b).getD j .dead) v) : v = (encW b).getD j undef := by
  match j, hj with
  | 0, _ => exact rep_lit h
  | 1, _ => exact rep_lit h
  | 2, _ => exact rep_lit h
  | 3, _ => exact rep_lit h
  | 4, _ => exact rep_lit h
/-- A row of binds in a new state, as data; the old row let go. -/
theorem ins_goes {V : View} {w' : World} {bb cap : Nat} {y : List BE} {xs : List (List AV)} (hH : V.H = [.arr 0 5 false xs]) (hG : HeapRep G V) (hbb : bb = V.ρ 0 ∨ V.w.heap.size ≤ bb)
    (h1 : w'.os = V.w.os) (h2 : w'.tape = V.w.tape) (h3 : w'.output = V.w.output) (h4 : V.w.heap.size ≤ w'.heap.size) (h5 : V.w.drawn ≤ w'.drawn) (h6 : ∀ i, i < V.w.heap.size → i ≠ V.ρ 0 → w'.heap[i]? = V.w.heap[i]?)
    (hc : ∀ j v, (fl y)[j]? = some v → w'.cell? ⟨bb, j, none⟩ = some v) (hcap : y.length ≤ cap) : Goes G V [.gone] (.ret (bes y)) (.returned (.slice (some ⟨bb, 0, none⟩) y.length cap)) w' := by
  have hlen : V.H.length = 1 := by rw [hH]; rfl
  have hM : V.M (V.ρ 0) := hG.mutb 0 _ (by rw [hH]; rfl) rfl
  have hlt : V.ρ 0 < V.w.heap.size := hG.lt 0 (by omega)
  have hst : Step V { w := w', M := fun x => V.M x ∧ x ≠ bb, H := [.gone], ρ := V.ρ } := {
    os := h1
    tape := h2
    output := h3
    size := h4
    drawn := trivial
    keep := fun b hb hn => ⟨h6 b hb fun e => hn 0 (by omega) e.symm, ⟨fun h => h.1, fun h => ⟨h, fun e => by
      rcases hbb with h' | h'
      · exact hn 0 (by omega) (by omega)
      · omega⟩⟩⟩
    data := fun b hb hn => ⟨h6 b hb fun e => hn (e ▸ hM), fun h => hn h.1⟩
    hlen := by rw [hlen]; exact Nat.le_refl _
    fresh := fun id hid => .inl ⟨by rw [hlen]; exact hid, rfl⟩
    obj := fun id hid => by
      have : id = 0 := by omega
      subst this
      unfold ObjStep
      rw [hH]
      exact trivial }
  refine ⟨_, rfl, hst, ?_, rfl, ?_⟩
  · exact {
      lt := fun id hid => by
        have : id = 0 := by have : id < 1 := hid; omega
        subst this
        exact Nat.lt_of_lt_of_le hlt h4
      obj := fun id o ho => by
        match id, ho with
        | 0, ho =>
          injection ho with ho
          subst ho
          exact trivial
      inj := fun i j hi hj _ => by
        have : i < 1 := hi
        have : j < 1 := hj
        omega
      mutb := fun id o ho hop => by
        match id, ho with
        | 0, ho =>
          injection ho with ho
          subst ho
          cases hop
      glob := hG.glob_step hst }
  · have key : PRep w' (fun x => V.M x ∧ x ≠ bb) (.sl 5 false (encs y)) (.slice (some ⟨bb, 0, none⟩) (encs y).length cap) :=
      .sl 5 false (encs y) (some ⟨bb, 0, none⟩) cap bb 0 (fun k j => ((y[k]?).map fun b => (encW b).getD j undef).getD undef) (fun _ => rfl) (fun _ _ h => h.2 rfl) (by rw [encs_length]; exact hcap) (fun h => by cases h)
        (fun x hx => by obtain ⟨b, _, rfl⟩ := List.mem_map.1 hx; rfl)
        (fun k j hk hj => by
          rw [encs_length] at hk
          rw [List.getElem?_eq_getElem hk, Nat.zero_add]
          exact hc _ _ (fl_get hk hj))
        (fun k j hk hj => by
          rw [encs_length] at hk
          rw [List.getElem?_eq_getElem hk]
          have hm : (encW y[k]).getD j undef ∈ encW y[k] := by
            rw [List.getD_eq_getElem?_getD, List.getElem?_eq_getElem (by rw [encW_len]; exact hj)]
            exact List.getElem_mem _
          exact encW_one _ _ hm)
        (fun k j hk hj => by
          rw [encs_length] at hk
          rw [List.getElem?_eq_getElem hk]
          have e : (encs y).getD k [] = enc y[k] := by rw [List.getD_eq_getElem?_getD, encs_get?, List.getElem?_eq_getElem hk]; rfl
          rw [e]
          exact enc_prep _ _ _ hj)
    rw [encs_length] at key
    exact Rep.pure _ _ key

theorem alloc_size (w : World) (o : Obj) : (w.alloc o).heap.size = w.heap.size + 1 := by
  show (w.heap.push _).size = _
  rw [Array.size_push]
theorem alloc_cell (w : World) (R : Array Value) (t : TypeId) (j : Nat) : (w.alloc (.cells R t)).cell? ⟨w.heap.size, j, none⟩ = R[j]? := by
  unfold World.cell? World.alloc
  simp only [Array.getElem?_push_size]
  rfl
theorem alloc_old (w : World) (o : Obj) (k : Nat) (hk : k < w.heap.size) : (w.alloc o).heap[k]? = w.heap[k]? := by
  show (w.heap.push _)[k]? = _
  rw [Array.getElem?_push_lt hk, Array.getElem?_eq_getElem hk]
theorem drew_os (w : World) : w.drew.os = w.os := rfl
theorem drew_tape (w : World) : w.drew.tape = w.tape := rfl
theorem drew_output (w : World) : w.drew.output = w.output := rfl
theorem drew_heap (w : World) : w.drew.heap = w.heap := rfl
theorem drew_drawn (w : World) : w.drew.drawn = w.drawn + 1 := rfl
theorem drew_cell (w : World) (a : Addr) : w.drew.cell? a = w.cell? a := rfl
set_option maxHeartbeats 2000000 in
theorem ins_in (x w : List BE) (b : BE) (i : Nat) (hi : i < x.length) (hx : x.length ≤ 1000000000) : CallC P G 31 [.own 0 0 0 x.length, int i, .sl 5 true [enc b]] [.arr 0 5 false (encs (x ++ w))] (.ret (bes (x.take i ++ [b] ++ x.drop i))) [.gone] := by
  intro V vs hH hG hr
  rw [callsIn_wide]
  obtain ⟨v0, v1, v2, rfl⟩ : ∃ v0 v1 v2, vs = [v0, v1, v2] := by
    have := hr.1
    match vs, this with
    | [a, b, c], _ => exact ⟨a, b, c, rfl⟩
  have e1 := rep_lit hr.tail.head
  subst e1
  have hs := rep_sl hr.tail.tail.head
  have ho := (rep_own hr.head).2
  have hH0 : V.H[0]? = some (.arr 0 5 false (encs (x ++ w))) := by rw [hH]; rfl
  rw [hH0] at ho
  obtain ⟨A, cap, c, t, rfl, hA, hle, hmax, hheap, hsize⟩ := ho.2 rfl
  obtain ⟨t', c', hheap', hcs0, _, hcell⟩ := hG.obj 0 _ hH0
  rw [hheap] at hheap'
  injection hheap' with hheap'
  injection hheap' with ec et
  subst ec et
  have hcap0 : cap ≠ 0 := by omega
  rw [Nat.zero_add] at hsize
  rw [hA hcap0, Nat.zero_mul]
  cases hs with
  | sl _ _ _ A2 cap2 vb vo f hA2 hb2 hcap2 ht2 hsz2 hc2 ho2 hr2 =>
    have e2 : A2 = some ⟨vb, vo, none⟩ := hA2 (by simp)
    subst e2
    have hMb : ¬ V.M vb := hb2 (by simp) (by decide)
    have hM : V.M (V.ρ 0) := hG.mutb 0 _ hH0 rfl
    have hne : vb ≠ V.ρ 0 := fun e => hMb (e ▸ hM)
    have hbw : V.ρ 0 < V.w.heap.size := hG.lt 0 (by rw [hH]; exact Nat.zero_lt_one)
    have hvs : ∀ j v, (encW b)[j]? = some v → V.w.cell? ⟨vb, vo + j, none⟩ = some v := fun j v hj => by
      have hj5 : j < 5 := (List.getElem?_eq_some_iff.1 hj).1
      have h1 := hc2 0 j Nat.zero_lt_one hj5
      have h2 := enc_val (V := V) hj5 (.pure _ _ (hr2 0 j Nat.zero_lt_one hj5))
      rw [h2] at h1
      rw [List.getD_eq_getElem?_getD, hj] at h1
      simpa using h1
    have hxl : ∀ k (hk : k < x.length), (encs (x ++ w)).getD k [] = enc x[k] := fun k hk => by
      rw [List.getD_eq_getElem?_getD, encs_get?, List.getElem?_append_left hk, List.getElem?_eq_getElem hk]; rfl
    have hcs : ∀ j v, (fl x)[j]? = some v → V.w.cell? ⟨V.ρ 0, j, none⟩ = some v := fun j v hj => by
      have hjl : j < x.length * 5 := by rw [← fl_len]; exact (List.getElem?_eq_some_iff.1 hj).1
      have hk : j / 5 < x.length := by omega
      have hm : j % 5 < 5 := Nat.mod_lt _ (by decide)
      obtain ⟨u, hu, _, hu2⟩ := hcell (j / 5) (j % 5) (by rw [encs_length, List.length_append]; omega) hm
      rw [hxl _ hk] at hu2
      have hu3 := enc_val hm hu2
      have hg := fl_get hk hm
      rw [show j / 5 * 5 + j % 5 = j by omega] at hg hu
      rw [hg] at hj
      injection hj with hj
      simp only [World.cell?, hheap]
      show c[j]? = some v
      rw [hu, hu3, hj]
    have hy : (x.take i ++ [b] ++ x.drop i).length = x.length + 1 := by simp; omega
    have hfy : fl (x.take i ++ [b] ++ x.drop i) = (fl x).take (i * 5) ++ encW b ++ (fl x).drop (i * 5) := by
      rw [fl_append, fl_append, fl_take, fl_drop]; simp [fl]
    have hdl : ((fl x).drop (i * 5)).length = (x.length - i) * 5 := by rw [List.length_drop, fl_len, Nat.sub_mul]
    have htl : ((fl x).take (i * 5)).length = i * 5 := by rw [List.length_take, fl_len]; omega
    -- what stands where, in the end
    have fin : ∀ (W : World) (bb : Nat), (∀ j v, j < i * 5 → (fl x)[j]? = some v → W.cell? ⟨bb, j, none⟩ = some v) → (∀ j (hj : j < 5), W.cell? ⟨bb, i * 5 + j, none⟩ = some ((encW b)[j]'(by rw [encW_len]; exact hj))) → (∀ j (hj : j < ((fl x).drop (i * 5)).length), W.cell? ⟨bb, (i + 1) * 5 + j, none⟩ = some ((fl x).drop (i * 5))[j]) → ∀ j v, (fl (x.take i ++ [b] ++ x.drop i))[j]? = some v → W.cell? ⟨bb, j, none⟩ = some v := fun W bb k1 k2 k3 j v hj => by
      rw [hfy] at hj
      rcases Nat.lt_or_ge j (i * 5) with h | h
      · rw [List.append_assoc, List.getElem?_append_left (by omega), List.getElem?_take, if_pos h] at hj
        exact k1 j v h hj
      · rcases Nat.lt_or_ge j ((i + 1) * 5) with h' | h'
        · rw [List.append_assoc, List.getElem?_append_right (by omega), htl, List.getElem?_append_left (by rw [encW_len]; omega)] at hj
          have := k2 (j - i * 5) (by omega)
          rw [show i * 5 + (j - i * 5) = j by omega] at this
          rw [this, ← hj, List.getElem?_eq_getElem]
        · rw [List.getElem?_append_right (by rw [List.length_append, htl, encW_len]; omega), List.length_append, htl, encW_len] at hj
          obtain ⟨hl, he⟩ := List.getElem?_eq_some_iff.1 hj
          have := k3 (j - (i * 5 + 5)) hl
          rw [show (i + 1) * 5 + (j - (i * 5 + 5)) = j by omega] at this
          rw [this, he]
    have hlc : ([enc b] : List (List AV)).length = 1 := rfl
    rcases Nat.lt_or_ge cap (x.length + 1) with hroom | hroom
    · have hcon := ins_grow (V.ρ 0) x.length cap i vb vo cap2 (fl x) (encW b) V.w hi hle hroom (by omega) (fl_len x) (encW_len b) hcs hvs (fl_one x) (encW_one b)
      refine Calls.mono hcon fun e w' he => ?_
      obtain ⟨rfl, rfl⟩ := he
      have hGn : x.length + 1 ≤ grownCap V.w (x.length + 1) cap 27 := grownCap_ge V.w _ _ _
      obtain ⟨GG, hGG⟩ : ∃ GG, GG = grownCap V.w (x.length + 1) cap 27 := ⟨_, rfl⟩
      rw [← hGG] at hGn ⊢
      have hRs : (rowI (fl x) x.length i GG).size = GG * 5 := rowI_size _ _ _ _ (fl_len x) hi hGn
      have hRt : ∀ j v, j < i * 5 → (fl x)[j]? = some v → (rowI (fl x) x.length i GG)[j]? = some v := fun j v hj hv => by
        rw [rowI, Array.append_assoc, Array.getElem?_append_left (by rw [List.size_toArray]; omega), List.getElem?_toArray, List.getElem?_take, if_pos hj, hv]
      obtain ⟨ROW, hROW⟩ : ∃ ROW, ROW = rowI (fl x) x.length i GG := ⟨_, rfl⟩
      rw [← hROW] at hRs hRt ⊢
      obtain ⟨W0, hW0⟩ : ∃ W0, W0 = V.w.alloc (.cells ROW 27) := ⟨_, rfl⟩
      have hW0s : W0.heap.size = V.w.heap.size + 1 := by rw [hW0]; exact alloc_size _ _
      have hW0c : ∀ j, W0.cell? ⟨V.w.heap.size, j, none⟩ = ROW[j]? := fun j => by rw [hW0]; exact alloc_cell _ _ _ _
      have hW0o : ∀ k, k < V.w.heap.size → W0.heap[k]? = V.w.heap[k]? := fun k hk => by rw [hW0]; exact alloc_old _ _ _ hk
      have w1 : W0.os = V.w.os := by rw [hW0]; rfl
      have w2 : W0.tape = V.w.tape := by rw [hW0]; rfl
      have w3 : W0.output = V.w.output := by rw [hW0]; rfl
      have w4 : W0.drawn = V.w.drawn := by rw [hW0]; rfl
      rw [← hW0]
      clear hW0 hROW hGG hcon
      obtain ⟨a1, a2, a3, a4, a5, a6⟩ := setCells_same V.w.heap.size (encW b) (i * 5) W0.drew
      obtain ⟨b1, b2, b3, b4, b5, b6⟩ := setCells_same V.w.heap.size ((fl x).drop (i * 5)) ((i + 1) * 5) ((W0.drew.setCells V.w.heap.size (i * 5) (encW b)).drew)
      have hsome : ∀ j, j < (x.length + 1) * 5 → (W0.drew.cell? ⟨V.w.heap.size, j, none⟩).isSome = true := fun j hj => by
        have hj' : j < ROW.size := by omega
        rw [drew_cell, hW0c, Array.getElem?_eq_getElem hj']; rfl
      have hsome2 : ∀ j, j < (x.length + 1) * 5 → ((W0.drew.setCells V.w.heap.size (i * 5) (encW b)).cell? ⟨V.w.heap.size, j, none⟩).isSome = true := fun j hj =>
        isSome_setCells V.w.heap.size (encW b) (i * 5) W0.drew (fun k hk => hsome (i * 5 + k) (by rw [encW_len] at hk; omega)) j (hsome j hj)
      rw [← hy]
      refine ins_goes hH hG (.inr (Nat.le_refl _)) ?_ ?_ ?_ ?_ ?_ ?_ ?_ (by rw [hy]; exact hGn)
      · rw [b1]; rw [drew_os, a1, drew_os, w1]
      · rw [b2]; rw [drew_tape, a2, drew_tape, w2]
      · rw [b3]; rw [drew_output, a3, drew_output, w3]
      · rw [b5, drew_heap, a5, drew_heap]; omega
      · rw [b4, drew_drawn, a4, drew_drawn]; omega
      · intro k hk _
        rw [b6 k (by omega), drew_heap, a6 k (by omega), drew_heap]
        exact hW0o k hk
      · refine fin _ _ (fun j v hj hv => ?_) (fun j hj => ?_) fun j hj => ?_
        · rw [World.cell?_setCells_out _ _ _ _ _ (fun _ _ => .inl (by show j < (i + 1) * 5; omega))]
          rw [drew_cell, World.cell?_setCells_out _ _ _ _ _ (fun _ _ => .inl hj), drew_cell, hW0c]
          exact hRt j v hj hv
        · rw [World.cell?_setCells_out _ _ _ _ _ (fun _ _ => .inl (by show i * 5 + j < (i + 1) * 5; omega))]
          rw [drew_cell]
          exact World.cell?_setCells_in V.w.heap.size (encW b) (i * 5) W0.drew (fun k hk => hsome (i * 5 + k) (by rw [encW_len] at hk; omega)) j hj
        · exact World.cell?_setCells_in V.w.heap.size ((fl x).drop (i * 5)) ((i + 1) * 5) (W0.drew.setCells V.w.heap.size (i * 5) (encW b)).drew (fun k hk => by rw [drew_cell]; exact hsome2 ((i + 1) * 5 + k) (by rw [hdl] at hk; omega)) j hj
    · have hvc : V.w.cell? ⟨vb, vo, none⟩ = some (.string b.ky) := hvs 0 _ rfl
      obtain ⟨tA, kA, hsa, hkA⟩ : ∃ tA kA, V.w.shape? vb = some (tA, kA) ∧ kA ≠ 0 := by
        unfold World.cell? at hvc
        simp only at hvc
        split at hvc
        · rename_i c2 t2 f2 hq
          refine ⟨t2, c2.size, by simp [World.shape?, hq], ?_⟩
          have : c2[vo]? = some (Value.string b.ky) := by simpa using hvc
          have := (Array.getElem?_eq_some_iff.1 this).1
          omega
        · cases hvc
      have hcon := ins_shift (V.ρ 0) x.length cap i vb vo cap2 (fl x) (encW b) V.w hi hroom (by unfold maxLen at hmax; omega) hne (fl_len x) (encW_len b) hcs
        (fun j hj => by simp only [World.cell?, hheap]; show (c[j]?).isSome = true; rw [Array.getElem?_eq_getElem (by omega)]; rfl) (fun j => by simp [World.frozen?, hheap]) hvs (fl_one x) (encW_one b) tA t kA c.size hsa (by simp [World.shape?, hheap]) hkA (by omega)
      refine Calls.mono hcon fun e w' he => ?_
      obtain ⟨rfl, rfl⟩ := he
      obtain ⟨a1, a2, a3, a4, a5, a6⟩ := setCells_same (V.ρ 0) ((fl x).drop (i * 5)) ((i + 1) * 5) V.w.drew
      obtain ⟨b1, b2, b3, b4, b5, b6⟩ := setCells_same (V.ρ 0) (encW b) (i * 5) (V.w.drew.setCells (V.ρ 0) ((i + 1) * 5) ((fl x).drop (i * 5)))
      have hsome : ∀ j, j < (x.length + 1) * 5 → (V.w.drew.cell? ⟨V.ρ 0, j, none⟩).isSome = true := fun j hj => by
        show (V.w.cell? ⟨V.ρ 0, j, none⟩).isSome = true
        simp only [World.cell?, hheap]; show (c[j]?).isSome = true; rw [Array.getElem?_eq_getElem (by omega)]; rfl
      have hsome2 : ∀ j, j < (x.length + 1) * 5 → ((V.w.drew.setCells (V.ρ 0) ((i + 1) * 5) ((fl x).drop (i * 5))).cell? ⟨V.ρ 0, j, none⟩).isSome = true := fun j hj =>
        isSome_setCells (V.ρ 0) ((fl x).drop (i * 5)) ((i + 1) * 5) V.w.drew (fun k hk => hsome ((i + 1) * 5 + k) (by rw [hdl] at hk; omega)) j (hsome j hj)
      rw [← hy]
      refine ins_goes hH hG (.inl rfl) ?_ ?_ ?_ ?_ ?_ ?_ ?_ (by rw [hy]; exact hroom)
      · rw [b1, a1, drew_os]
      · rw [b2, a2, drew_tape]
      · rw [b3, a3, drew_output]
      · rw [b5, a5, drew_heap]; exact Nat.le_refl _
      · rw [b4, a4, drew_drawn]; omega
      · intro k hk hne
        rw [b6 k hne, a6 k hne, drew_heap]
      · refine fin _ _ (fun j v hj hv => ?_) (fun j hj => ?_) fun j hj => ?_
        · rw [World.cell?_setCells_out _ _ _ _ _ (fun _ _ => .inl hj), World.cell?_setCells_out _ _ _ _ _ (fun _ _ => .inl (by show j < (i + 1) * 5; omega))]
          exact hcs j v hv
        · exact World.cell?_setCells_in (V.ρ 0) (encW b) (i * 5) (V.w.drew.setCells (V.ρ 0) ((i + 1) * 5) ((fl x).drop (i * 5))) (fun k hk => hsome2 (i * 5 + k) (by rw [encW_len] at hk; omega)) j hj
        · rw [World.cell?_setCells_out _ _ _ _ _ (fun _ _ => .inr (by show i * 5 + (encW b).length ≤ (i + 1) * 5 + j; rw [encW_len]; omega))]
          exact World.cell?_setCells_in (V.ρ 0) ((fl x).drop (i * 5)) ((i + 1) * 5) V.w.drew (fun k hk => hsome ((i + 1) * 5 + k) (by rw [hdl] at hk; omega)) j hj
end Go.Bd

/- BINDS, 15: Put. -/
namespace Go.Bd
set_option maxRecDepth 100000
set_option linter.unusedSimpArgs false
set_option linter.unusedVariables false
open Go Go.Am Go.Proofs Go.Seat

theorem app_room (x w : List BE) (b y : BE) : List.take (x.length + 1) (List.drop 0 (List.take x.length (encs (x ++ y :: w)) ++ [str b.ky, int b.dv, int b.sq, int b.tm, str b.vl] :: List.drop (x.length + 1) (encs (x ++ y :: w)))) = encs (x ++ [b]) := by
  have h : ∀ L : List (List AV), List.take (x.length + 1) (encs x ++ enc b :: L) = encs x ++ [enc b] := fun L => by
    rw [show encs x ++ enc b :: L = (encs x ++ [enc b]) ++ L by simp]
    exact List.take_left' (by simp [encs_length])
  rw [List.drop_zero, encs_take, List.take_left]
  exact (h _).trans (by rw [encs_one, encs_append])

theorem ins_e0 (x : List BE) (b : BE) (i : Int) (hi : i = (x.length : Int)) (hx : x.length ≤ 1000000000) (h : True) : CallC P G 31 [AV.own 0 0 0 (List.length x), int i, AV.sl 5 true [enc b]] [AObj.arr 0 5 false (encs x)] (AOut.ret (bes (x ++ [b]))) [AObj.gone] := by
  have hz0 : 0 = 0 := (rfl)
  have _ := h
  exact CallC.heapSub ((show CallC P G 31 [AV.own 0 0 0 (List.length x), int i, AV.sl 5 true [enc b]] [AObj.arr 0 5 false (encs x)] (AOut.ret (AV.sl 5 false (encs (x ++ [BE.mk (BE.ky b) (BE.dv b) (BE.sq b) (BE.tm b) (BE.vl b)])))) [AObj.arr 1 5 true (encs (x ++ [BE.mk (BE.ky b) (BE.dv b) (BE.sq b) (BE.tm b) (BE.vl b)]))] from callC_of [kp hz0, kp (show (0 : Int) ≤ i ∧ i ≤ (↑(List.length x) : Int) ∧ (↑(List.length x) : Int) ≤ (↑(List.length x) : Int) from (by omega)), kf (Eq.refl false), kp hz0, kt (show (i == (↑(List.length x) : Int)) = true from (decide_eq_true (by omega))), ko (Orc.hp (some 25) (AV.own 0 1 0 (List.length (x ++ [BE.mk (BE.ky b) (BE.dv b) (BE.sq b) (BE.tm b) (BE.vl b)]))) [AObj.arr 1 5 false (encs (x ++ [BE.mk (BE.ky b) (BE.dv b) (BE.sq b) (BE.tm b) (BE.vl b)]))]), ko (Orc.frz (encs (x ++ [BE.mk (BE.ky b) (BE.dv b) (BE.sq b) (BE.tm b) (BE.vl b)]))), kp (show Am.Sub (AV.own 0 1 0 (List.length x + 1)) (AV.own 0 1 0 (List.length (x ++ [BE.mk (BE.ky b) (BE.dv b) (BE.sq b) (BE.tm b) (BE.vl b)]))) from (Sub.of_eq (by simp [Go.Bd.encs_ids, Go.Bd.encs_pure, Go.Bd.encs_all, Go.Bd.encs_length]))), kp (show Am.HSub [AObj.arr 1 5 false (encs x ++ [[str (BE.ky b), int (BE.dv b), int (BE.sq b), int (BE.tm b), str (BE.vl b)]])] [AObj.arr 1 5 false (encs (x ++ [BE.mk (BE.ky b) (BE.dv b) (BE.sq b) (BE.tm b) (BE.vl b)]))] from (⟨.inl (by simp only [Go.Bd.encs_append, Go.Bd.encs_mk]), trivial⟩)), kp hz0, kp (show List.length x = List.length (encs x) from ((Go.Bd.encs_length _).symm)), kp (show (List.length x + 1) * 56 ≤ 140737488355328 from (by omega)), kp (show 1 = 1 from (rfl)), kp (show List.take (List.length (x ++ [BE.mk (BE.ky b) (BE.dv b) (BE.sq b) (BE.tm b) (BE.vl b)])) (List.drop 0 (encs (x ++ [BE.mk (BE.ky b) (BE.dv b) (BE.sq b) (BE.tm b) (BE.vl b)]))) = encs (x ++ [BE.mk (BE.ky b) (BE.dv b) (BE.sq b) (BE.tm b) (BE.vl b)]) from (Go.Bd.encs_all _)), kp (show List.length (encs (x ++ [BE.mk (BE.ky b) (BE.dv b) (BE.sq b) (BE.tm b) (BE.vl b)])) = List.length (x ++ [BE.mk (BE.ky b) (BE.dv b) (BE.sq b) (BE.tm b) (BE.vl b)]) from (Go.Bd.encs_length _)), kp (show ∀ (c : List AV), c ∈ encs (x ++ [BE.mk (BE.ky b) (BE.dv b) (BE.sq b) (BE.tm b) (BE.vl b)]) → List.all c AV.pureB = true from (Go.Bd.encs_pure _))] (by kernel_rfl))) (by exact ⟨.inr trivial, trivial⟩)

theorem ins_e1 (x w : List BE) (b y : BE) (i : Int) (hi : i = (x.length : Int)) (hx : x.length ≤ 1000000000) (h : ((List.length x + 1 ≤ List.length (encs (x ++ y :: w))) ∧ ((List.take (List.length x + 1) (List.drop 0 (List.take (List.length x) (encs (x ++ y :: w)) ++ [str (BE.ky b), int (BE.dv b), int (BE.sq b), int (BE.tm b), str (BE.vl b)] :: List.drop (List.length x + 1) (encs (x ++ y :: w)))) = encs (x ++ [b])) ∧ ((List.length (encs (x ++ [b])) = List.length x + 1) ∧ True)))) : CallC P G 31 [AV.own 0 0 0 (List.length x), int i, AV.sl 5 true [enc b]] [AObj.arr 0 5 false (encs (x ++ y :: w))] (AOut.ret (bes (x ++ [b]))) [AObj.gone] := by
  have hz0 : 0 = 0 := (rfl)
  obtain ⟨o2, h⟩ := h
  obtain ⟨o3, h⟩ := h
  obtain ⟨o4, h⟩ := h
  have _ := h
  exact CallC.heapSub ((show CallC P G 31 [AV.own 0 0 0 (List.length x), int i, AV.sl 5 true [enc b]] [AObj.arr 0 5 false (encs (x ++ y :: w))] (AOut.ret (AV.sl 5 false (encs (x ++ [b])))) [AObj.arr 1 5 true (List.take (List.length x) (encs (x ++ y :: w)) ++ [str (BE.ky b), int (BE.dv b), int (BE.sq b), int (BE.tm b), str (BE.vl b)] :: List.drop (List.length x + 1) (encs (x ++ y :: w)))] from callC_of [kp hz0, kp (show (0 : Int) ≤ i ∧ i ≤ (↑(List.length x) : Int) ∧ (↑(List.length x) : Int) ≤ (↑(List.length x) : Int) from (by omega)), kf (Eq.refl false), kp hz0, kt (show (i == (↑(List.length x) : Int)) = true from (decide_eq_true (by omega))), ko (Orc.own), ko (Orc.frz (encs (x ++ [b]))), kp hz0, kp o2, kp (show 1 = 1 from (rfl)), kp o3, kp o4, kp (show ∀ (c : List AV), c ∈ encs (x ++ [b]) → List.all c AV.pureB = true from (Go.Bd.encs_pure _))] (by kernel_rfl))) (by exact ⟨.inr trivial, trivial⟩)

theorem ins_z (x : List BE) (b : BE) (i : Int) (hi : i = (x.length : Int)) (hx : x.length ≤ 1000000000) (h : True) : CallC P G 31 [AV.sl 5 true (encs x), int i, AV.sl 5 true [enc b]] [] (AOut.ret (bes (x ++ [b]))) [] := by
  have _ := h
  exact callC_of [kv 12 (show Am.Sub (AV.sl 5 true (List.drop (Int.toNat i) (List.take (Int.toNat (↑(List.length (encs x)) : Int)) (encs x)))) (AV.sl 5 true (List.drop (Int.toNat i) (List.take (Int.toNat (↑(List.length x) : Int)) (encs x)))) from (Sub.of_eq (by simp only [Go.Bd.encs_length]))), kp (show (0 : Int) ≤ i ∧ i ≤ (↑(List.length (encs x)) : Int) ∧ (↑(List.length (encs x)) : Int) ≤ (↑(List.length (encs x)) : Int) from (by rw [Go.Bd.encs_length]; omega)), kf (Eq.refl false), kv 19 (show Am.Sub (int (↑(List.length (encs x)) : Int)) (int (↑(List.length x) : Int)) from (Sub.of_eq (by simp only [Go.Bd.encs_length]))), kt (show (i == (↑(List.length x) : Int)) = true from (decide_eq_true (by omega))), ko (Orc.hp (some 25) (AV.own 0 0 0 (List.length (x ++ [BE.mk (BE.ky b) (BE.dv b) (BE.sq b) (BE.tm b) (BE.vl b)]))) [AObj.arr 0 5 false (encs (x ++ [BE.mk (BE.ky b) (BE.dv b) (BE.sq b) (BE.tm b) (BE.vl b)]))]), ko (Orc.frz (encs (x ++ [BE.mk (BE.ky b) (BE.dv b) (BE.sq b) (BE.tm b) (BE.vl b)]))), kp (show Am.Sub (AV.own 0 0 0 (List.length (encs x) + 1)) (AV.own 0 0 0 (List.length (x ++ [BE.mk (BE.ky b) (BE.dv b) (BE.sq b) (BE.tm b) (BE.vl b)]))) from (Sub.of_eq (by simp [Go.Bd.encs_ids, Go.Bd.encs_pure, Go.Bd.encs_length, Go.Bd.encs_all]))), kp (show Am.HSub [AObj.arr 0 5 false (encs x ++ [[str (BE.ky b), int (BE.dv b), int (BE.sq b), int (BE.tm b), str (BE.vl b)]])] [AObj.arr 0 5 false (encs (x ++ [BE.mk (BE.ky b) (BE.dv b) (BE.sq b) (BE.tm b) (BE.vl b)]))] from (⟨.inl (by simp only [Go.Bd.encs_append, Go.Bd.encs_mk]), trivial⟩)), kp (show [[str (BE.ky b), int (BE.dv b), int (BE.sq b), int (BE.tm b), str (BE.vl b)]] ≠ [] from (by simp)), kp (show (List.length (encs x) + 1) * 56 ≤ 140737488355328 from (by simp only [List.length_append, List.length_cons, List.length_nil, List.length_map, Go.Bd.encs_ids, Go.Bd.encs_pure, Go.Bd.encs_length, Go.Bd.encs_all] <;> omega)), kp (show 0 = 0 from (rfl)), kp (show List.take (List.length (x ++ [BE.mk (BE.ky b) (BE.dv b) (BE.sq b) (BE.tm b) (BE.vl b)])) (List.drop 0 (encs (x ++ [BE.mk (BE.ky b) (BE.dv b) (BE.sq b) (BE.tm b) (BE.vl b)]))) = encs (x ++ [BE.mk (BE.ky b) (BE.dv b) (BE.sq b) (BE.tm b) (BE.vl b)]) from (Go.Bd.encs_all _)), kp (show List.length (encs (x ++ [BE.mk (BE.ky b) (BE.dv b) (BE.sq b) (BE.tm b) (BE.vl b)])) = List.length (x ++ [BE.mk (BE.ky b) (BE.dv b) (BE.sq b) (BE.tm b) (BE.vl b)]) from (Go.Bd.encs_length _)), kp (show ∀ (c : List AV), c ∈ encs (x ++ [BE.mk (BE.ky b) (BE.dv b) (BE.sq b) (BE.tm b) (BE.vl b)]) → List.all c AV.pureB = true from (Go.Bd.encs_pure _))] (by kernel_rfl)

theorem ins_c (x w : List BE) (b : BE) (i : Nat) (hi : i ≤ x.length) (hx : x.length ≤ 1000000000) : CallC P G 31 [.own 0 0 0 x.length, int i, .sl 5 true [enc b]] [.arr 0 5 false (encs (x ++ w))] (.ret (bes (x.take i ++ [b] ++ x.drop i))) [.gone] := by
  rcases Nat.lt_or_ge i x.length with h | h
  · exact ins_in x w b i h hx
  · have e : i = x.length := by omega
    subst e
    rw [List.take_length, List.drop_length, List.append_nil]
    cases w with
    | nil => rw [List.append_nil]; exact ins_e0 x b _ rfl hx trivial
    | cons y w => exact ins_e1 x w b y _ rfl hx ⟨by rw [encs_length]; simp, app_room x w b y, by rw [encs_length]; simp, trivial⟩

theorem bz_l (x : List BE) (b : BE) (hx : x.length = 0) (h : True) : RunL P G none 0 (loopAt P 29 0) (St.mk (slots 49 [(0, AV.sl 5 true (encs x)), (2, fnF 30), (4, AV.ptr 0 0), (8, int (↑(List.length x) : Int)), (9, int 0), (10, int (↑(List.length x) : Int))]) [AObj.box (enc b)] []) (AEx.exit 0) (St.mk (slots 49 [(0, AV.sl 5 true (encs x)), (2, fnF 30), (4, AV.ptr 0 0), (8, int (↑(List.length x) : Int)), (9, int 0)]) [AObj.box (enc b)] []) := by
  have _ := h
  exact loop_exit [kf (show decide ((0 : Int) < (↑(List.length x) : Int)) = false from (decide_eq_false (by omega)))] (others 49 [0, 2, 4, 8, 9]) 1 (by kernel_rfl)

theorem bz_f (x : List BE) (b : BE) (hx : x.length = 0) (hL : RunL P G none 0 (loopAt P 29 0) { env := slots 49 [(0, .sl 5 true (encs x)), (2, fnF 30), (4, .ptr 0 0), (8, int x.length), (9, int 0), (10, int x.length)], H := [.box (enc b)] } (.exit 0) { env := slots 49 [(0, .sl 5 true (encs x)), (2, fnF 30), (4, .ptr 0 0), (8, int x.length), (9, int 0)], H := [.box (enc b)] }) (h : True) : CallC P G 29 [AV.sl 5 true (encs x), bel b, fnF 30] [] (AOut.ret (AV.tup [int 0, Am.bool false])) [] := by
  have _ := h
  exact callC_of [kv 13 (show Am.Sub (int (↑(List.length (encs x)) : Int)) (int (↑(List.length x) : Int)) from (Sub.of_eq (by simp only [Go.Bd.encs_length]))), kl [1, 3, 5, 6, 7, 11, 12, 13, 14, 15, 16, 17, 18, 19, 20, 21, 22, 23, 24, 25, 26, 27, 28, 29, 30, 31, 32, 33, 34, 35, 36, 37, 38, 39, 40, 41, 42, 43, 44, 45, 46, 47, 48] 1 (@hL ), kf (show decide ((0 : Int) < (↑(List.length x) : Int)) = false from (decide_eq_false (by omega)))] (by kernel_rfl)

theorem put_w (v w t : List BE) (c : List Vec.D) (b : BE) (p : Nat) (f : Bool) (hD : CallC P G 17 [bes v, Vec.vec c, str b.ky] [] (.ret (.tup [.own 2 0 0 t.length, int 0])) [.gone, .gone, .arr 0 5 false (encs (t ++ w))]) (hV : CallC P G 26 [bel b] [] (.ret (bool true)) []) (hC : CallC P G 27 [Vec.vec c, dta b.dv b.sq] [] (.ret (bool false)) []) (hF : CallC P G 28 [bes v, smF 0] [.box (enc b)] (.ret (bool false)) [.box (enc b)]) (hB : CallC P G 29 [.own 0 0 0 t.length, bel b, fnF 30] [.arr 0 5 false (encs (t ++ w))] (.ret (.tup [int p, bool f])) [.arr 0 5 false (encs (t ++ w))]) (r : List BE) (hI : CallC P G 31 [.own 0 0 0 t.length, int p, .sl 5 true [enc b]] [.arr 0 5 false (encs (t ++ w))] (.ret (bes r)) [.gone]) (h : True) : CallC P G 12 [bes v, Vec.vec c, bel b] [] (AOut.ret (AV.tup [bes r, int 0])) [] := by
  have hz1 : ∀ (x : List AV), x ∈ encs (t ++ w) → AV.idsInL [] x = true := (Go.Bd.encs_ids _)
  have _ := h
  exact callC_of [kc [] (@hD ), kp hz1, kf (Eq.refl false), kc [] (@hV ), kf (Eq.refl false), kc [] (@hC ), kf (Eq.refl false), kc [0] (@hF ), kf (Eq.refl false), kc [3] (@hB ), kp hz1, kp hz1, kc [3] (@hI ), kp hz1] (by kernel_rfl)

theorem put_z (v x : List BE) (c : List Vec.D) (b : BE) (hD : CallC P G 17 [bes v, Vec.vec c, str b.ky] [] (.ret (.tup [.sl 5 true (encs x), int 0])) []) (hV : CallC P G 26 [bel b] [] (.ret (bool true)) []) (hC : CallC P G 27 [Vec.vec c, dta b.dv b.sq] [] (.ret (bool false)) []) (hF : CallC P G 28 [bes v, smF 0] [.box (enc b)] (.ret (bool false)) [.box (enc b)]) (hB : CallC P G 29 [.sl 5 true (encs x), bel b, fnF 30] [] (.ret (.tup [int 0, bool false])) []) (r : List BE) (hI : CallC P G 31 [.sl 5 true (encs x), int 0, .sl 5 true [enc b]] [] (.ret (bes r)) []) (h : True) : CallC P G 12 [bes v, Vec.vec c, bel b] [] (AOut.ret (AV.tup [bes r, int 0])) [] := by
  have _ := h
  exact callC_of [kc [] (@hD ), kf (Eq.refl false), kc [] (@hV ), kf (Eq.refl false), kc [] (@hC ), kf (Eq.refl false), kc [0] (@hF ), kf (Eq.refl false), kc [] (@hB ), kc [] (@hI )] (by kernel_rfl)

theorem put_a (v : List BE) (c : List Vec.D) (b : BE) (e : Int) (hD : CallC P G 17 [bes v, Vec.vec c, str b.ky] [] (.ret (.tup [bes [], int e])) []) (he : e ≠ 0) (h : True) : CallC P G 12 [bes v, Vec.vec c, bel b] [] (AOut.ret (AV.tup [bes [], int e])) [] := by
  have _ := h
  exact CallC.out ((show CallC P G 12 [bes v, Vec.vec c, bel b] [] (AOut.ret (AV.tup [nilS, int e])) [] from callC_of [kc [] (@hD ), kt (show (e != 0) = true from (congrArg Bool.not (decide_eq_false (by omega))))] (by kernel_rfl))) (Sub.tups ⟨Sub.nil _, Sub.refl _, trivial⟩)

theorem put_v (v t : List BE) (c : List Vec.D) (b : BE) (hD : CallC P G 17 [bes v, Vec.vec c, str b.ky] [] (.ret (.tup [bes t, int 0])) []) (hV : CallC P G 26 [bel b] [] (.ret (bool false)) []) (h : True) : CallC P G 12 [bes v, Vec.vec c, bel b] [] (AOut.ret (AV.tup [bes [], int 140])) [] := by
  have _ := h
  exact CallC.out ((show CallC P G 12 [bes v, Vec.vec c, bel b] [] (AOut.ret (AV.tup [nilS, int 140])) [] from callC_of [kc [] (@hD ), kf (Eq.refl false), kc [] (@hV ), kt (Eq.refl true), kt (Eq.refl true), kt (Eq.refl true)] (by kernel_rfl))) (Sub.tups ⟨Sub.nil _, Sub.refl _, trivial⟩)

theorem put_c (v t : List BE) (c : List Vec.D) (b : BE) (hD : CallC P G 17 [bes v, Vec.vec c, str b.ky] [] (.ret (.tup [bes t, int 0])) []) (hV : CallC P G 26 [bel b] [] (.ret (bool true)) []) (hC : CallC P G 27 [Vec.vec c, dta b.dv b.sq] [] (.ret (bool true)) []) (h : True) : CallC P G 12 [bes v, Vec.vec c, bel b] [] (AOut.ret (AV.tup [bes [], int 140])) [] := by
  have _ := h
  exact CallC.out ((show CallC P G 12 [bes v, Vec.vec c, bel b] [] (AOut.ret (AV.tup [nilS, int 140])) [] from callC_of [kc [] (@hD ), kf (Eq.refl false), kc [] (@hV ), kf (Eq.refl false), kc [] (@hC ), kt (Eq.refl true), kt (Eq.refl true)] (by kernel_rfl))) (Sub.tups ⟨Sub.nil _, Sub.refl _, trivial⟩)

theorem put_m (v t : List BE) (c : List Vec.D) (b : BE) (hD : CallC P G 17 [bes v, Vec.vec c, str b.ky] [] (.ret (.tup [bes t, int 0])) []) (hV : CallC P G 26 [bel b] [] (.ret (bool true)) []) (hC : CallC P G 27 [Vec.vec c, dta b.dv b.sq] [] (.ret (bool false)) []) (hF : CallC P G 28 [bes v, smF 0] [.box (enc b)] (.ret (bool true)) [.box (enc b)]) (h : True) : CallC P G 12 [bes v, Vec.vec c, bel b] [] (AOut.ret (AV.tup [bes [], int 140])) [] := by
  have _ := h
  exact CallC.out ((show CallC P G 12 [bes v, Vec.vec c, bel b] [] (AOut.ret (AV.tup [nilS, int 140])) [] from callC_of [kc [] (@hD ), kf (Eq.refl false), kc [] (@hV ), kf (Eq.refl false), kc [] (@hC ), kf (Eq.refl false), kc [0] (@hF ), kt (Eq.refl true)] (by kernel_rfl))) (Sub.tups ⟨Sub.nil _, Sub.refl _, trivial⟩)

theorem insB_plc (b : BE) (x : List BE) : insB b x = x.take (plcB b x) ++ [b] ++ x.drop (plcB b x) := by
  have h1 : x.take (plcB b x) = x.takeWhile fun a => lessB a b := by
    conv => lhs; rhs; rw [← List.takeWhile_append_dropWhile (p := fun a => lessB a b) (l := x)]
    rw [plcB, List.take_left]
  have h2 : x.drop (plcB b x) = x.dropWhile fun a => lessB a b := by
    conv => lhs; rhs; rw [← List.takeWhile_append_dropWhile (p := fun a => lessB a b) (l := x)]
    rw [plcB, List.drop_left]
  rw [h1, h2]; simp [insB]

theorem put_c' (v : List BE) (c : List Vec.D) (b : BE) (hv : v.length ≤ 10000000) (hc : c.length ≤ 10000000) : CallC P G 12 [bes v, Vec.vec c, bel b] [] (.ret (.tup [bes (putR v c b).1, int (putR v c b).2])) [] := by
  have hD := drop_c v c b.ky hv hc
  have hV := valid_c b
  have hC := Vec.covers_c c b.dv b.sq (by omega)
  have hF := contains_c v b (by omega)
  unfold putR
  unfold dropR at hD
  by_cases e0 : chkE v = 0
  · rw [if_pos e0] at hD ⊢
    by_cases e1 : Vec.checkE c = 0
    · rw [if_pos e1] at hD ⊢
      cases hVb : validB b with
      | false =>
        rw [hVb] at hV
        rw [if_neg (by simp [mayB, hVb])]
        exact put_v v _ c b hD hV trivial
      | true =>
        rw [hVb] at hV
        cases hO : Vec.coversB c b.dot with
        | true =>
          rw [if_neg (by simp [mayB, hO])]
          exact put_c v _ c b hD hV (by rw [← hO]; exact hC) trivial
        | false =>
          have hC : CallC P G 27 [Vec.vec c, dta b.dv b.sq] [] (.ret (bool false)) [] := by rw [← hO]; exact hC
          cases hA : v.any fun a => decide (a.dot = b.dot) with
          | true =>
            rw [hA] at hF
            rw [if_neg (by simp only [mayB, hA]; simp)]
            exact put_m v _ c b hD hV hC hF trivial
          | false =>
            rw [hA] at hF
            rw [if_pos (by simp only [mayB, hA, hVb, hO]; rfl)]
            by_cases hne : v = []
            · subst hne
              exact put_z [] [] c b (drop_e c b.ky hc e1) hV hC hF (bz_f [] b rfl (bz_l [] b rfl trivial) trivial) _ (ins_z [] b 0 rfl (by simp) trivial) trivial
            · obtain ⟨w, hD'⟩ := drop_own v c b.ky hv hne hc e0 e1
              have hM : Map v := (ok_iff v).1 (by unfold chkE at e0; split at e0 <;> first | assumption | cases e0)
              have hl : (rest v c b.ky).length ≤ v.length := List.length_filter_le _ _
              obtain ⟨f, hB⟩ := bin_c (rest v c b.ky) w b (by omega) (rest_map hM c b.ky).sorted
              rw [insB_plc]
              exact put_w v w (rest v c b.ky) c b _ f hD' hV hC hF hB _ (ins_c (rest v c b.ky) w b _ (plcB_le _ _) (by omega)) trivial
    · rw [if_neg e1] at hD ⊢
      exact put_a v c b _ hD e1 trivial
  · rw [if_neg e0] at hD ⊢
    exact put_a v c b _ hD e0 trivial

end Go.Bd

/- BINDS, 9: the reference's Values and Keys. -/
namespace Go.Bd
set_option maxRecDepth 100000
set_option linter.unusedSimpArgs false
set_option linter.unusedVariables false
open Go Go.Am Go.Proofs Go.Seat

/-- Where a new one goes. -/
def plc (x : BE) (l : List BE) : Nat := (l.takeWhile fun a => !moreB x a).length
def insM (x : BE) (l : List BE) : List BE := l.take (plc x l) ++ [x] ++ l.drop (plc x l)
def valR (k : ByteArray) : List BE → List BE → List BE
  | l, [] => l
  | l, x :: t => valR k (if x.ky = k then insM x l else l) t
def plcK (k : ByteArray) (l : List ByteArray) : Nat := (l.takeWhile fun a => ltS a k).length
def insK (k : ByteArray) (l : List ByteArray) : List ByteArray := if l[plcK k l]? = some k then l else l.take (plcK k l) ++ [k] ++ l.drop (plcK k l)
def keyR : List ByteArray → List BE → List ByteArray
  | l, [] => l
  | l, x :: t => keyR (insK x.ky l) t
end Go.Bd

/- BINDS, 7: the reference's rest, Drop. -/
namespace Go.Bd
set_option maxRecDepth 100000
set_option linter.unusedSimpArgs false
set_option linter.unusedVariables false
open Go Go.Am Go.Proofs Go.Seat

end Go.Bd

/- BINDS, 8: the reference's Put. -/
namespace Go.Bd
set_option maxRecDepth 100000
set_option linter.unusedSimpArgs false
set_option linter.unusedVariables false
open Go Go.Am Go.Proofs Go.Seat

end Go.Bd

/- BINDS, 21: the chapter's examples. -/
namespace Go.Bd
set_option maxRecDepth 100000
set_option linter.unusedSimpArgs false
set_option linter.unusedVariables false
open Go Go.Am Go.Proofs Go.Seat

abbrev kA : BE := ⟨⟨#[107]⟩, 1, 1, 5, ⟨#[120]⟩⟩
abbrev kB : BE := ⟨⟨#[107]⟩, 2, 1, 7, ⟨#[121]⟩⟩
abbrev kC : BE := ⟨⟨#[107]⟩, 3, 1, 8, ⟨#[122]⟩⟩
abbrev kZ : BE := ⟨⟨#[]⟩, 0, 0, 0, ⟨#[]⟩⟩
theorem p1 : putR [] [] kB = ([kB], 0) := by decide +kernel
theorem p2 : putR [kB] [] kA = ([kA, kB], 0) := by decide +kernel
theorem p3 : putR [kA, kB] [(1, 1)] kC = ([kB, kC], 0) := by decide +kernel
theorem p4 : dropR [kA, kB] [(2, 3)] ⟨#[107]⟩ = ([kA], 0) := by decide +kernel
theorem p5 : putR [] [] kZ = ([], 140) := by decide +kernel
theorem p6 : dropR [] [] ⟨#[107]⟩ = ([], 0) := by decide +kernel
theorem p7 : srt [] (fil ⟨#[107]⟩ [kA, kB]) = [kB, kA] := by decide +kernel
theorem p8 : keysOf [] [kA, kB] = [⟨#[107]⟩] := by decide +kernel
theorem p9 : chkE [kA, kA] = 140 := by decide +kernel
theorem nil2 {f : FuncId} {x : AV} {out : AOut} (h : CallC P G f [bes [], Vec.vec [], x] [] out []) : CallC P G f [nilS, nilS, x] [] out [] := h.args rfl fun j hj => by
  have : j < 3 := hj
  match j, this with
  | 0, _ => exact Sub.nil 5
  | 1, _ => exact Sub.nil 2
  | 2, _ => exact Sub.refl _
theorem sb_1 : CallC P G 12 [nilS, nilS, bel kB] [] (.ret (.tup [bes [kB], int 0])) [] := nil2 (by have h := put_c' [] [] kB (by decide) (by decide); rw [p1] at h; exact h)
theorem sb_2 : CallC P G 12 [bes [kB], nilS, bel kA] [] (.ret (.tup [bes [kA, kB], int 0])) [] := by
  have h := put_c' [kB] [] kA (by decide) (by decide)
  rw [p2] at h
  exact h.args rfl fun j hj => by
    have : j < 3 := hj
    match j, this with
    | 0, _ => exact Sub.refl _
    | 1, _ => exact Sub.nil 2
    | 2, _ => exact Sub.refl _
theorem sb_3 : CallC P G 12 [bes [kA, kB], Vec.vec [(1, 1)], bel kC] [] (.ret (.tup [bes [kB, kC], int 0])) [] := by
  have h := put_c' [kA, kB] [(1, 1)] kC (by decide) (by decide)
  rw [p3] at h
  exact h
theorem sb_4 : CallC P G 17 [bes [kA, kB], Vec.vec [(2, 3)], str ⟨#[107]⟩] [] (.ret (.tup [bes [kA], int 0])) [] := by
  have h := drop_c [kA, kB] [(2, 3)] ⟨#[107]⟩ (by decide) (by decide)
  rw [p4] at h
  exact h
theorem sb_5 : CallC P G 12 [nilS, nilS, bel kZ] [] (.ret (.tup [bes [], int 140])) [] := nil2 (by have h := put_c' [] [] kZ (by decide) (by decide); rw [p5] at h; exact h)
theorem sb_6 : CallC P G 17 [nilS, nilS, str ⟨#[107]⟩] [] (.ret (.tup [bes [], int 0])) [] := nil2 (by have h := drop_c [] [] ⟨#[107]⟩ (by decide) (by decide); rw [p6] at h; exact h)
theorem sb_7 : CallC P G 21 [bes [kA, kB], str ⟨#[107]⟩] [] (.ret (bes [kB, kA])) [] := by
  have h := vals_c [kA, kB] ⟨#[107]⟩ (by decide)
  rw [p7] at h
  exact h
theorem sb_8 : CallC P G 19 [bes [kA, kB]] [] (.ret (strs [⟨#[107]⟩])) [] := keys_c [kA, kB] [⟨#[107]⟩] (by decide) (by decide +kernel) (by rw [p8]) (List.pairwise_singleton _ _)
theorem sb_9 : CallC P G 15 [bes [kA, kA]] [] (.ret (int 140)) [] := by
  have h := check_c [kA, kA] (by decide)
  rw [p9] at h
  exact h
theorem sb_10 : CallC P G 21 [nilS, str ⟨#[107]⟩] [] (.ret (bes [])) [] := by
  have h := vals_c [] ⟨#[107]⟩ (by decide)
  exact h.args rfl fun j hj => by
    have : j < 2 := hj
    match j, this with
    | 0, _ => exact Sub.nil 5
    | 1, _ => exact Sub.refl _
theorem sb_11 : CallC P G 14 [bes [kA, kB], bes [kA, kB]] [] (.ret (bool true)) [] := by have h := rsame_c [kA, kB] [kA, kB] (by decide) (by decide); rw [decide_eq_true rfl] at h; exact h
theorem sb_12 : CallC P G 14 [bes [kA], bes [kA]] [] (.ret (bool true)) [] := by have h := rsame_c [kA] [kA] (by decide) (by decide); rw [decide_eq_true rfl] at h; exact h
theorem sb_13 : CallC P G 14 [bes [kB, kA], bes [kB, kA]] [] (.ret (bool true)) [] := by have h := rsame_c [kB, kA] [kB, kA] (by decide) (by decide); rw [decide_eq_true rfl] at h; exact h
end Go.Bd

/- BINDS, 22: sane, walked. -/
namespace Go.Bd
set_option maxRecDepth 100000
set_option linter.unusedSimpArgs false
set_option linter.unusedVariables false
open Go Go.Am Go.Proofs Go.Seat

theorem sane_w  (h : True) : CallC P G 9 [] [] (AOut.ret (Am.bool true)) [] := by
  have _ := h
  exact callC_of [kc [] (@Go.Bd.bind_c (ByteArray.mk #[107]) (1) (1) (5) (ByteArray.mk #[120])), kc [] (@Go.Bd.bind_c (ByteArray.mk #[107]) (2) (1) (7) (ByteArray.mk #[121])), kc [] (@Go.Bd.sb_1 ), kc [] (@Go.Bd.sb_2 ), kc [] (@Go.Bd.bind_c (ByteArray.mk #[107]) (3) (1) (8) (ByteArray.mk #[122])), kc [] (show CallC P G 12 [AV.sl 5 false [[str (BE.ky kA), int 1, int 1, int 5, str (BE.vl kA)], [str (BE.ky kB), int 2, int 1, int 7, str (BE.vl kB)]], AV.sl 2 true [[int 1, int 1]], AV.agg [str (ByteArray.mk #[107]), int 3, int 1, int 8, str (ByteArray.mk #[122])]] [] (AOut.ret (AV.tup [AV.sl 5 false [[str (BE.ky kB), int 2, int 1, int 7, str (BE.vl kB)], [str (BE.ky kC), int 3, int 1, int 8, str (BE.vl kC)]], int 0])) [] from (CallC.args' (@Go.Bd.sb_3 ) ⟨Sub.refl _, Sub.loose _ _ _, Sub.refl _, trivial⟩)), kc [] (show CallC P G 17 [AV.sl 5 false [[str (BE.ky kA), int 1, int 1, int 5, str (BE.vl kA)], [str (BE.ky kB), int 2, int 1, int 7, str (BE.vl kB)]], AV.sl 2 true [[int 2, int 3]], str (ByteArray.mk #[107])] [] (AOut.ret (AV.tup [AV.sl 5 false [[str (BE.ky kA), int 1, int 1, int 5, str (BE.vl kA)]], int 0])) [] from (CallC.args' (@Go.Bd.sb_4 ) ⟨Sub.refl _, Sub.loose _ _ _, Sub.refl _, trivial⟩)), kc [] (@Go.Bd.sb_5 ), kc [] (@Go.Bd.sb_6 ), kc [] (@Go.Bd.sb_7 ), kc [] (@Go.Bd.sb_8 ), kt (Eq.refl true), kt (Eq.refl true), kc [] (show CallC P G 14 [AV.sl 5 false [[str (BE.ky kA), int 1, int 1, int 5, str (BE.vl kA)], [str (BE.ky kB), int 2, int 1, int 7, str (BE.vl kB)]], AV.sl 5 true [[str (ByteArray.mk #[107]), int 1, int 1, int 5, str (ByteArray.mk #[120])], [str (ByteArray.mk #[107]), int 2, int 1, int 7, str (ByteArray.mk #[121])]]] [] (AOut.ret (Am.bool true)) [] from (CallC.args' (@Go.Bd.sb_11 ) ⟨Sub.refl _, Sub.loose _ _ _, trivial⟩)), kt (Eq.refl true), kt (Eq.refl true), kt (Eq.refl true), ko (Orc.elem [str (BE.ky kB), int 2, int 1, int 7, str (BE.vl kB)]), kp (show (0 : Int) ≤ (0 : Int) ∧ (encs [kB, kC])[Int.toNat 0]? = some [str (BE.ky kB), int 2, int 1, int 7, str (BE.vl kB)] from (⟨by decide, rfl⟩)), kt (Eq.refl true), kt (Eq.refl true), kc [] (show CallC P G 14 [AV.sl 5 false [[str (BE.ky kA), int 1, int 1, int 5, str (BE.vl kA)]], AV.sl 5 true [[str (ByteArray.mk #[107]), int 1, int 1, int 5, str (ByteArray.mk #[120])]]] [] (AOut.ret (Am.bool true)) [] from (CallC.args' (@Go.Bd.sb_12 ) ⟨Sub.refl _, Sub.loose _ _ _, trivial⟩)), kt (Eq.refl true), kt (Eq.refl true), kt (Eq.refl true), kt (Eq.refl true), kc [] (show CallC P G 14 [AV.sl 5 false [[str (BE.ky kB), int 2, int 1, int 7, str (BE.vl kB)], [str (BE.ky kA), int 1, int 1, int 5, str (BE.vl kA)]], AV.sl 5 true [[str (ByteArray.mk #[107]), int 2, int 1, int 7, str (ByteArray.mk #[121])], [str (ByteArray.mk #[107]), int 1, int 1, int 5, str (ByteArray.mk #[120])]]] [] (AOut.ret (Am.bool true)) [] from (CallC.args' (@Go.Bd.sb_13 ) ⟨Sub.refl _, Sub.loose _ _ _, trivial⟩)), kt (Eq.refl true), kt (Eq.refl true), ko (Orc.elem [str (ByteArray.mk #[107])]), kp (show (0 : Int) ≤ (0 : Int) ∧ (sts [ByteArray.mk #[107]])[Int.toNat 0]? = some [str (ByteArray.mk #[107])] from (⟨by decide, rfl⟩)), kt (Eq.refl true), kc [] (@Go.Bd.sb_10 ), kt (Eq.refl true), kc [] (show CallC P G 15 [AV.sl 5 true [[str (ByteArray.mk #[107]), int 1, int 1, int 5, str (ByteArray.mk #[120])], [str (ByteArray.mk #[107]), int 1, int 1, int 5, str (ByteArray.mk #[120])]]] [] (AOut.ret (int 140)) [] from (CallC.args' (@Go.Bd.sb_9 ) ⟨Sub.loose _ _ _, trivial⟩))] (by kernel_rfl)

end Go.Bd

/- BINDS, 40: the statements' arguments as data. -/
namespace Go.Bd
set_option maxRecDepth 100000
set_option linter.unusedSimpArgs false
set_option linter.unusedVariables false
open Go Go.Am Go.Proofs Go.Seat

theorem cz3 : Try.prog.cellsOf 3 = 1 := by kernel_rfl
theorem cz9 : Try.prog.cellsOf 9 = 1 := by kernel_rfl
theorem cz22 : Try.prog.cellsOf 22 = 1 := by kernel_rfl
theorem cz25 : Try.prog.cellsOf 25 = 2 := by kernel_rfl
theorem cz27 : Try.prog.cellsOf 27 = 5 := by kernel_rfl
noncomputable def cInt : Cod Try.prog 3 Int := Cod.int Try.underlying3 cz3
noncomputable def cStr : Cod Try.prog 9 ByteArray := Cod.str Try.underlying9 cz9
noncomputable def cDot : Cod Try.prog 25 (Int × Int) := Cod.struct Try.underlying25 (by kernel_rfl) (FCod.cons cInt rfl (FCod.cons cInt (by kernel_rfl) FCod.nil)) (fun a => (a.1, a.2.1)) (fun a => [Am.int a.1, Am.int a.2]) (fun _ => rfl) (fun _ => cz25.symm)
abbrev AB := ByteArray × (Int × Int) × Int × ByteArray × Unit
noncomputable def cBE : Cod Try.prog 27 BE := Cod.struct Try.underlying27 (by kernel_rfl) (FCod.cons cStr rfl (FCod.cons cDot (by kernel_rfl) (FCod.cons cInt (by kernel_rfl) (FCod.cons cStr (by kernel_rfl) FCod.nil))))
  (fun a : AB => ⟨a.1, a.2.1.1, a.2.1.2, a.2.2.1, a.2.2.2.1⟩) enc (fun a : AB => rfl) (fun _ => cz27.symm)
noncomputable def cBinds : Cod Try.prog 22 (List BE) := Cod.slice Try.underlying22 cz22 (by rw [cz27]; decide) cBE
theorem cBinds_enc (v : List BE) : cBinds.enc v = [bes v] := by
  show [AV.sl (Try.prog.cellsOf 27) false (v.map enc)] = [AV.sl 5 false (v.map enc)]
  rw [cz27]
theorem reads_binds {H : Type} {enc : TypeId × Value → H} {W : World} {base : Nat} {v : Value} {d : DataW H} {ps : List MemPlace} (hv : Value.okWide Try.prog W .any base 22 v) (h : DataW.Trod enc Try.prog W 0 (fun _ => true) true 22 v d ps) : ∃ l : List BE, l.length ≤ 9223372036854775807 ∧ Rep (view0 W) (bes l) v := by
  obtain ⟨a, h1, h2⟩ := cBinds.one (by kernel_rfl) hv h cBinds_enc
  exact ⟨a, h1.1, h2⟩
end Go.Bd

/- BINDS, 23: the laws PutSpec and DropSpec. -/
namespace Go.Bd
set_option maxRecDepth 100000
set_option linter.unusedSimpArgs false
set_option linter.unusedVariables false
open Go Go.Am Go.Proofs Go.Seat

theorem sane_c : CallC P G 9 [] [] (.ret (bool true)) [] := sane_w trivial

abbrev Len (l : List BE) : Prop := l.length ≤ 9223372036854775807
theorem few_l {cs : List (List Vec.D)} {l : List BE} (h : (shortB cs && fewB l) = true) : l.length ≤ 20 ∧ (∀ b ∈ l, smallB b = true) ∧ ∀ c ∈ cs, c.length ≤ 10 := by
  rw [Bool.and_eq_true] at h
  obtain ⟨h1, h2⟩ := h
  unfold fewB at h2
  rw [Bool.and_eq_true, decide_eq_true_iff] at h2
  refine ⟨by omega, fun b hb => List.all_eq_true.1 h2.1 b hb, fun c hc => ?_⟩
  have := List.all_eq_true.1 h1 c hc
  rw [decide_eq_true_iff] at this
  omega
/-! DropSpec -/
end Go.Bd

/- BINDS, 31: the law Ordered: one value held against the one ahead. -/
namespace Go.Bd
set_option maxRecDepth 100000
set_option linter.unusedSimpArgs false
set_option linter.unusedVariables false
open Go Go.Am Go.Proofs Go.Seat

def oS (l : List BE) (ks : List ByteArray) (n i : Nat) : St := { env := slots 129 [(0, bes l), (3, int n), (4, strs ks), (21, strs ks), (22, int ks.length), (23, int i)], H := [] }
def oV (l : List BE) (ks : List ByteArray) (n i : Nat) (key : ByteArray) (v : List BE) (k : Nat) : St := { env := slots 129 [(0, bes l), (3, int n), (4, strs ks), (21, strs ks), (22, int ks.length), (23, int i), (6, str key), (7, bes v), (42, bes v), (43, int v.length), (44, int k)], H := [] }
def oM (l : List BE) (ks : List ByteArray) (n i : Nat) (key : ByteArray) (v : List BE) (k : Nat) (b : BE) (m : Bool) (j : Nat) : St := { env := slots 129 [(0, bes l), (3, int n), (4, strs ks), (21, strs ks), (22, int ks.length), (23, int i), (6, str key), (7, bes v), (42, bes v), (43, int v.length), (44, int k), (8, int k), (9, .ptr 0 0), (10, bool m), (49, bes l), (50, int l.length), (51, int j)], H := [.box (enc b)] }
def oN (l : List BE) (ks : List ByteArray) (n i : Nat) (key : ByteArray) (v : List BE) (k : Nat) (b : BE) (m : Bool) : St := { env := slots 129 [(0, bes l), (3, int n), (4, strs ks), (21, strs ks), (22, int ks.length), (23, int i), (6, str key), (7, bes v), (42, bes v), (43, int v.length), (44, int k), (8, int k), (9, .ptr 0 0), (10, bool m)], H := [.box (enc b)] }

theorem oV_0 (l v : List BE) (ks : List ByteArray) (n i : Nat) (key : ByteArray) (b : BE) (hv : v.length ≤ 1000) (hk : (0 : Int) < (v.length : Int)) (hb : v[0]? = some b) (hM : RunL P G none 0 (loopAt P 8 2) (oM l ks n i key v 0 b false 0) (.exit 4) (oN l ks n i key v 0 b true)) (hq : (ByteArray.toList b.ky == ByteArray.toList key) = true) (ex : AEx) (s : St) (h : RunL P G none 0 (loopAt P 8 1) (St.mk (slots 129 [(0, AV.sl 5 false (encs l)), (3, int (↑n : Int)), (4, AV.sl 1 false (sts ks)), (6, str key), (7, AV.sl 5 false (encs v)), (21, AV.sl 1 false (sts ks)), (22, int (↑(List.length ks) : Int)), (23, int (↑i : Int)), (42, AV.sl 5 false (encs v)), (43, int (↑(List.length v) : Int)), (44, int 1)]) [] []) ex s) : RunL P G none 0 (loopAt P 8 1) (oV l ks n i key v 0) ex s := by
  exact loop_next [kt (show decide ((↑0 : Int) < (↑(List.length v) : Int)) = true from (decide_eq_true (by omega))), ko (Orc.elem (enc b)), kp (show (0 : Int) ≤ (0 : Int) ∧ (encs v)[Int.toNat (↑0 : Int)]? = some (enc b) from (el_nat hb)), kv 50 (show Am.Sub (int (↑(List.length (encs l)) : Int)) (int (↑(List.length l) : Int)) from (Sub.of_eq (by simp only [Go.Bd.encs_length]))), kl [45, 46, 47, 48] 1 (@hM ), kf (Eq.refl false), kf (show (!ByteArray.toList (BE.ky b) == ByteArray.toList key) = false from (congrArg Bool.not (hq))), kt (Eq.refl true)] (others 129 [0, 3, 4, 6, 7, 21, 22, 23, 42, 43, 44]) 0 h (by kernel_rfl)

theorem oV_k (l v : List BE) (ks : List ByteArray) (n i k : Nat) (key : ByteArray) (a b : BE) (hv : v.length ≤ 1000) (hk : (k : Int) < (v.length : Int)) (hk0 : k ≠ 0) (hb : v[k]? = some b) (ha : v[((k : Int) - 1).toNat]? = some a) (hM : RunL P G none 0 (loopAt P 8 2) (oM l ks n i key v k b false 0) (.exit 4) (oN l ks n i key v k b true)) (hq : (ByteArray.toList b.ky == ByteArray.toList key) = true) (ex : AEx) (s : St) (h : (∃ x3 : BE, ((0 : Int) ≤ (↑k : Int) - 1 ∧ v[Int.toNat ((↑k : Int) - 1)]? = some x3) ∧ (((BE.tm x3 < BE.tm b) → (AEx.ret = ex) ∧ (St.mk (slots 129 []) [] [] = s)) ∧ ((¬BE.tm x3 < BE.tm b) → (((BE.tm x3 = BE.tm b) → (((BE.dv x3 < BE.dv b) → (AEx.ret = ex) ∧ (St.mk (slots 129 []) [] [] = s)) ∧ ((¬BE.dv x3 < BE.dv b) → (((BE.dv x3 = BE.dv b) → (((BE.sq x3 < BE.sq b) → (AEx.ret = ex) ∧ (St.mk (slots 129 []) [] [] = s)) ∧ ((¬BE.sq x3 < BE.sq b) → RunL P G none 0 (loopAt P 8 1) (St.mk (slots 129 [(0, AV.sl 5 false (encs l)), (3, int (↑n : Int)), (4, AV.sl 1 false (sts ks)), (6, str key), (7, AV.sl 5 false (encs v)), (21, AV.sl 1 false (sts ks)), (22, int (↑(List.length ks) : Int)), (23, int (↑i : Int)), (42, AV.sl 5 false (encs v)), (43, int (↑(List.length v) : Int)), (44, int (↑(k + 1) : Int))]) [] []) ex s))) ∧ ((¬BE.dv x3 = BE.dv b) → RunL P G none 0 (loopAt P 8 1) (St.mk (slots 129 [(0, AV.sl 5 false (encs l)), (3, int (↑n : Int)), (4, AV.sl 1 false (sts ks)), (6, str key), (7, AV.sl 5 false (encs v)), (21, AV.sl 1 false (sts ks)), (22, int (↑(List.length ks) : Int)), (23, int (↑i : Int)), (42, AV.sl 5 false (encs v)), (43, int (↑(List.length v) : Int)), (44, int (↑(k + 1) : Int))]) [] []) ex s))))) ∧ ((¬BE.tm x3 = BE.tm b) → RunL P G none 0 (loopAt P 8 1) (St.mk (slots 129 [(0, AV.sl 5 false (encs l)), (3, int (↑n : Int)), (4, AV.sl 1 false (sts ks)), (6, str key), (7, AV.sl 5 false (encs v)), (21, AV.sl 1 false (sts ks)), (22, int (↑(List.length ks) : Int)), (23, int (↑i : Int)), (42, AV.sl 5 false (encs v)), (43, int (↑(List.length v) : Int)), (44, int (↑(k + 1) : Int))]) [] []) ex s)))))) : RunL P G none 0 (loopAt P 8 1) (oV l ks n i key v k) ex s := by
  have hz0 : decide ((↑k : Int) < (↑(List.length v) : Int)) = true := (decide_eq_true (by omega))
  have hz1 : (0 : Int) ≤ (↑k : Int) ∧ (encs v)[Int.toNat (↑k : Int)]? = some (enc b) := (el_nat hb)
  have hz2 : Am.Sub (int (↑(List.length (encs l)) : Int)) (int (↑(List.length l) : Int)) := (Sub.of_eq (by simp only [Go.Bd.encs_length]))
  have hz3 := (@hM )
  have hz4 : (!ByteArray.toList (BE.ky b) == ByteArray.toList key) = false := (congrArg Bool.not (hq))
  have hz5 : ((↑k : Int) == 0) = false := (decide_eq_false (by omega))
  have hz6 : Am.Sub (int (IntKind.wrap IntKind.i64 ((↑k : Int) - 1))) (int ((↑k : Int) - 1)) := (Sub.of_wrap (by omega) (by omega) rfl)
  obtain ⟨x3, o4, h⟩ := h
  have hz7 : (0 : Int) ≤ (↑k : Int) - 1 ∧ (encs v)[Int.toNat ((↑k : Int) - 1)]? = some (enc x3) := (el_int o4)
  by_cases c5 : (BE.tm x3 < BE.tm b)
  · have h := h.1 c5
    obtain ⟨eX, eS⟩ := h
    exact RunL.to ((show RunL P G none 0 (loopAt P 8 1) (oV l ks n i key v k) AEx.ret (St.mk (slots 129 []) [] []) from loop_exit [kt hz0, ko (Orc.elem (enc b)), kp hz1, kv 50 hz2, kl [45, 46, 47, 48] 1 hz3, kf (Eq.refl false), kf hz4, kf hz5, kv 74 hz6, ko (Orc.elem (enc x3)), kp hz7, kt (decide_eq_true c5), kt (Eq.refl true)] (others 129 []) 0 (by kernel_rfl))) eX (SubS.of_eq eS)
  · have h := h.2 c5
    by_cases c6 : (BE.tm x3 = BE.tm b)
    · have h := h.1 c6
      by_cases c7 : (BE.dv x3 < BE.dv b)
      · have h := h.1 c7
        obtain ⟨eX, eS⟩ := h
        exact RunL.to ((show RunL P G none 0 (loopAt P 8 1) (oV l ks n i key v k) AEx.ret (St.mk (slots 129 []) [] []) from loop_exit [kt hz0, ko (Orc.elem (enc b)), kp hz1, kv 50 hz2, kl [45, 46, 47, 48] 1 hz3, kf (Eq.refl false), kf hz4, kf hz5, kv 74 hz6, ko (Orc.elem (enc x3)), kp hz7, kf (decide_eq_false c5), kt (beq_iff_eq.2 c6), kt (decide_eq_true c7), kt (Eq.refl true)] (others 129 []) 0 (by kernel_rfl))) eX (SubS.of_eq eS)
      · have h := h.2 c7
        by_cases c8 : (BE.dv x3 = BE.dv b)
        · have h := h.1 c8
          by_cases c9 : (BE.sq x3 < BE.sq b)
          · have h := h.1 c9
            obtain ⟨eX, eS⟩ := h
            exact RunL.to ((show RunL P G none 0 (loopAt P 8 1) (oV l ks n i key v k) AEx.ret (St.mk (slots 129 []) [] []) from loop_exit [kt hz0, ko (Orc.elem (enc b)), kp hz1, kv 50 hz2, kl [45, 46, 47, 48] 1 hz3, kf (Eq.refl false), kf hz4, kf hz5, kv 74 hz6, ko (Orc.elem (enc x3)), kp hz7, kf (decide_eq_false c5), kt (beq_iff_eq.2 c6), kf (decide_eq_false c7), kt (beq_iff_eq.2 c8), kt (decide_eq_true c9)] (others 129 []) 0 (by kernel_rfl))) eX (SubS.of_eq eS)
          · have h := h.2 c9
            exact loop_next [kt hz0, ko (Orc.elem (enc b)), kp hz1, kv 50 hz2, kl [45, 46, 47, 48] 1 hz3, kf (Eq.refl false), kf hz4, kf hz5, kv 74 hz6, ko (Orc.elem (enc x3)), kp hz7, kf (decide_eq_false c5), kt (beq_iff_eq.2 c6), kf (decide_eq_false c7), kt (beq_iff_eq.2 c8), kf (decide_eq_false c9), kv 116 (show Am.Sub (int (IntKind.wrap IntKind.i64 ((↑k : Int) + 1))) (int (↑(k + 1) : Int)) from (Sub.of_wrap (by omega) (by omega) (by omega)))] (others 129 [0, 3, 4, 6, 7, 21, 22, 23, 42, 43, 44]) 0 h (by kernel_rfl)
        · have h := h.2 c8
          exact loop_next [kt hz0, ko (Orc.elem (enc b)), kp hz1, kv 50 hz2, kl [45, 46, 47, 48] 1 hz3, kf (Eq.refl false), kf hz4, kf hz5, kv 74 hz6, ko (Orc.elem (enc x3)), kp hz7, kf (decide_eq_false c5), kt (beq_iff_eq.2 c6), kf (decide_eq_false c7), kf (beq_eq_false_iff_ne.2 c8), kf (Eq.refl false), kv 116 (show Am.Sub (int (IntKind.wrap IntKind.i64 ((↑k : Int) + 1))) (int (↑(k + 1) : Int)) from (Sub.of_wrap (by omega) (by omega) (by omega)))] (others 129 [0, 3, 4, 6, 7, 21, 22, 23, 42, 43, 44]) 0 h (by kernel_rfl)
    · have h := h.2 c6
      exact loop_next [kt hz0, ko (Orc.elem (enc b)), kp hz1, kv 50 hz2, kl [45, 46, 47, 48] 1 hz3, kf (Eq.refl false), kf hz4, kf hz5, kv 74 hz6, ko (Orc.elem (enc x3)), kp hz7, kf (decide_eq_false c5), kf (beq_eq_false_iff_ne.2 c6), kf (Eq.refl false), kv 116 (show Am.Sub (int (IntKind.wrap IntKind.i64 ((↑k : Int) + 1))) (int (↑(k + 1) : Int)) from (Sub.of_wrap (by omega) (by omega) (by omega)))] (others 129 [0, 3, 4, 6, 7, 21, 22, 23, 42, 43, 44]) 0 h (by kernel_rfl)

end Go.Bd

/- BINDS, 24: plain: Values and Keys of both packages are one. -/
namespace Go.Bd
set_option maxRecDepth 100000
set_option linter.unusedSimpArgs false
set_option linter.unusedVariables false
open Go Go.Am Go.Proofs Go.Seat

theorem more_iff {a b : BE} : moreB a b = true ↔ a.tm > b.tm ∨ (a.tm = b.tm ∧ (b.dv < a.dv ∨ (b.dv = a.dv ∧ b.sq < a.sq))) := by
  simp [moreB, ear_iff]
theorem more_iff' {a b : BE} : moreB a b = false ↔ ¬ (a.tm > b.tm ∨ (a.tm = b.tm ∧ (b.dv < a.dv ∨ (b.dv = a.dv ∧ b.sq < a.sq)))) := by
  rw [← more_iff, Bool.not_eq_true]
/-- None counts more than one ahead of it. -/
abbrev Desc (l : List BE) : Prop := l.Pairwise fun a b => moreB b a = false
theorem more_mono {e a b : BE} (h1 : moreB e a = true) (h2 : moreB b a = false) : moreB e b = true := by
  rw [more_iff] at *; rw [more_iff'] at h2; omega
theorem more_asymm {a b : BE} (h1 : moreB a b = true) : moreB b a = false := by
  rw [more_iff] at h1; rw [more_iff']; omega

theorem mv_pass : ∀ (R S : List BE) (e : BE), (∀ b ∈ R, moreB e b = true) → mv (R ++ S) e = mv S e ++ R.reverse
  | [], S, e, _ => by simp
  | y :: R, S, e, h => by
    rw [List.cons_append, mv, if_pos (h y (List.mem_cons_self ..)), mv_pass R S e fun b hb => h b (List.mem_cons_of_mem _ hb)]
    simp
theorem mv_stop (A : List BE) (e : BE) (h : ∀ b ∈ A, moreB e b = false) : mv A.reverse e = A ++ [e] := by
  rcases List.eq_nil_or_concat A with rfl | ⟨t, y, rfl⟩
  · rfl
  · rw [List.concat_eq_append] at h ⊢
    rw [List.reverse_append, List.reverse_singleton, List.singleton_append, mv, if_neg (by rw [h y (by simp)]; decide)]
    simp
theorem split_desc {l : List BE} (h : Desc l) (e : BE) : (∀ b ∈ l.take (plc e l), moreB e b = false) ∧ ∀ b ∈ l.drop (plc e l), moreB e b = true := by
  induction l with
  | nil => simp
  | cons a t ih =>
    rw [Desc, List.pairwise_cons] at h
    obtain ⟨i1, i2⟩ := ih h.2
    cases hm : moreB e a with
    | true =>
      have : plc e (a :: t) = 0 := by simp [plc, hm]
      rw [this]
      refine ⟨by simp, fun b hb => ?_⟩
      rcases List.mem_cons.1 hb with rfl | hb
      · exact hm
      · exact more_mono hm (h.1 b hb)
    | false =>
      have : plc e (a :: t) = plc e t + 1 := by simp [plc, hm]
      rw [this, List.take_succ_cons, List.drop_succ_cons]
      refine ⟨fun b hb => ?_, i2⟩
      rcases List.mem_cons.1 hb with rfl | hb
      · exact hm
      · exact i1 b hb
theorem mv_ins {l : List BE} (h : Desc l) (e : BE) : mv l.reverse e = insM e l := by
  obtain ⟨h1, h2⟩ := split_desc h e
  conv => lhs; rw [← List.take_append_drop (plc e l) l, List.reverse_append]
  rw [mv_pass _ _ _ (fun b hb => h2 b (by simpa using hb)), mv_stop _ _ h1, List.reverse_reverse]
  rfl
theorem insM_perm (e : BE) (l : List BE) : (insM e l).Perm (e :: l) := by
  unfold insM
  rw [List.append_assoc, List.singleton_append]
  refine List.perm_middle.trans ?_
  rw [List.take_append_drop]
theorem insM_desc {l : List BE} (h : Desc l) (e : BE) : Desc (insM e l) := by
  obtain ⟨h1, h2⟩ := split_desc h e
  unfold insM
  rw [Desc, List.append_assoc, List.singleton_append, List.pairwise_append, List.pairwise_cons]
  refine ⟨h.sublist (List.take_sublist _ _), ⟨fun b hb => more_asymm (h2 b hb), h.sublist (List.drop_sublist _ _)⟩, fun a ha b hb => ?_⟩
  rcases List.mem_cons.1 hb with rfl | hb
  · exact h1 a ha
  · have : Desc (l.take (plc e l) ++ l.drop (plc e l)) := by rw [List.take_append_drop]; exact h
    exact (List.pairwise_append.1 this).2.2 a ha b hb
theorem srt_val (k : ByteArray) : ∀ (v l : List BE), Desc l → srt l (fil k v) = valR k l v ∧ Desc (valR k l v) ∧ (valR k l v).Perm (l ++ fil k v)
  | [], l, h => ⟨rfl, h, by simp [valR, fil]⟩
  | b :: t, l, h => by
    rw [fil_cons, valR]
    by_cases hk : b.ky = k
    · rw [if_pos hk, if_pos hk, List.singleton_append, srt, mv_ins h]
      obtain ⟨i1, i2, i3⟩ := srt_val k t (insM b l) (insM_desc h b)
      exact ⟨i1, i2, i3.trans (((insM_perm b l).append_right _).trans (List.perm_middle (l₁ := l) (a := b) (l₂ := fil k t)).symm)⟩
    · rw [if_neg hk, if_neg hk, List.nil_append]
      exact srt_val k t l h
theorem vals_eq (k : ByteArray) (v : List BE) : srt [] (fil k v) = valR k [] v := (srt_val k v [] List.Pairwise.nil).1
theorem vals_desc (k : ByteArray) (v : List BE) : Desc (srt [] (fil k v)) := by rw [vals_eq]; exact (srt_val k v [] List.Pairwise.nil).2.1
theorem vals_perm (k : ByteArray) (v : List BE) : (srt [] (fil k v)).Perm (fil k v) := by rw [vals_eq]; exact (srt_val k v [] List.Pairwise.nil).2.2

/-! Keys -/
abbrev Asc (l : List ByteArray) : Prop := l.Pairwise fun a b => ltS a b = true
theorem split_asc {l : List ByteArray} (h : Asc l) (k : ByteArray) : (∀ b ∈ l.take (plcK k l), ltS b k = true) ∧ ∀ b ∈ l.drop (plcK k l), b = k ∨ ltS k b = true := by
  induction l with
  | nil => simp
  | cons a t ih =>
    rw [Asc, List.pairwise_cons] at h
    obtain ⟨i1, i2⟩ := ih h.2
    cases hm : ltS a k with
    | true =>
      have : plcK k (a :: t) = plcK k t + 1 := by simp [plcK, hm]
      rw [this, List.take_succ_cons, List.drop_succ_cons]
      refine ⟨fun b hb => ?_, i2⟩
      rcases List.mem_cons.1 hb with rfl | hb
      · exact hm
      · exact i1 b hb
    | false =>
      have : plcK k (a :: t) = 0 := by simp [plcK, hm]
      rw [this]
      have ha : a = k ∨ ltS k a = true := by
        rcases ltS_tri a k with g | g | g
        · rw [hm] at g; cases g
        · exact .inl g
        · exact .inr g
      refine ⟨by simp, fun b hb => ?_⟩
      rcases List.mem_cons.1 hb with rfl | hb
      · exact ha
      · have hz := h.1 b hb
        rcases ha with rfl | ha
        · exact .inr hz
        · exact .inr (ltS_trans ha hz)
theorem insK_asc {l : List ByteArray} (h : Asc l) (k : ByteArray) : Asc (insK k l) ∧ ∀ a, a ∈ insK k l ↔ a ∈ l ∨ a = k := by
  obtain ⟨h1, h2⟩ := split_asc h k
  unfold insK
  by_cases he : l[plcK k l]? = some k
  · rw [if_pos he]
    exact ⟨h, fun a => ⟨.inl, fun h => h.elim id fun e => e ▸ List.mem_of_getElem? he⟩⟩
  · rw [if_neg he]
    have h3 : ∀ b ∈ l.drop (plcK k l), ltS k b = true := fun b hb => by
      rcases h2 b hb with rfl | g
      · exfalso
        have hl : Asc (l.drop (plcK b l)) := h.sublist (List.drop_sublist _ _)
        cases hd : l.drop (plcK b l) with
        | nil => rw [hd] at hb; cases hb
        | cons a t =>
          have e : l[plcK b l]? = some a := by
            have := congrArg (fun x => x[0]?) hd
            simpa [List.getElem?_drop] using this
          rw [hd] at hb hl
          rcases List.mem_cons.1 hb with rfl | hb
          · exact he e
          · rw [Asc, List.pairwise_cons] at hl
            have g1 := hl.1 b hb
            rcases h2 a (by rw [hd]; exact List.mem_cons_self ..) with rfl | g2
            · exact he e
            · rw [ltS_asymm g1] at g2; cases g2
      · exact g
    refine ⟨?_, fun a => ?_⟩
    · rw [Asc, List.append_assoc, List.singleton_append, List.pairwise_append, List.pairwise_cons]
      refine ⟨h.sublist (List.take_sublist _ _), ⟨h3, h.sublist (List.drop_sublist _ _)⟩, fun a ha b hb => ?_⟩
      rcases List.mem_cons.1 hb with rfl | hb
      · exact h1 a ha
      · exact ltS_trans (h1 a ha) (h3 b hb)
    · have : a ∈ l ↔ a ∈ l.take (plcK k l) ∨ a ∈ l.drop (plcK k l) := by rw [← List.mem_append, List.take_append_drop]
      rw [this, List.append_assoc, List.mem_append, List.singleton_append, List.mem_cons]
      constructor
      · rintro (g | g | g)
        · exact .inl (.inl g)
        · exact .inr g
        · exact .inl (.inr g)
      · rintro ((g | g) | g)
        · exact .inl g
        · exact .inr (.inr g)
        · exact .inr (.inl g)
theorem keyR_asc : ∀ (v : List BE) {l : List ByteArray}, Asc l → Asc (keyR l v) ∧ ∀ a, a ∈ keyR l v ↔ a ∈ l ∨ ∃ b ∈ v, b.ky = a
  | [], l, h => ⟨h, by simp [keyR]⟩
  | b :: t, l, h => by
    obtain ⟨h1, h2⟩ := insK_asc h b.ky
    obtain ⟨i1, i2⟩ := keyR_asc t h1
    refine ⟨i1, fun a => ?_⟩
    rw [keyR, i2, h2]
    simp only [List.mem_cons, exists_eq_or_imp]
    constructor
    · rintro ((g | g) | g)
      · exact .inl g
      · exact .inr (.inl g.symm)
      · exact .inr (.inr g)
    · rintro (g | g | g)
      · exact .inl (.inl g)
      · exact .inl (.inr g.symm)
      · exact .inr g
theorem asc_nodup {l : List ByteArray} (h : Asc l) : l.Nodup := by
  rw [List.nodup_iff_pairwise_ne]
  exact h.imp fun {a b} g e => by rw [e, ltS_irrefl] at g; cases g
theorem keys_perm (v : List BE) : (keyR [] v).Perm (keysOf [] v) := by
  obtain ⟨h1, h2⟩ := keyR_asc v (l := []) List.Pairwise.nil
  exact (List.perm_ext_iff_of_nodup (asc_nodup h1) (keysOf_nodup v List.nodup_nil)).2 fun a => by rw [h2, keysOf_mem]
theorem keys_ok (v : List BE) (hv : v.length ≤ 1000) (hk : ∀ b ∈ v, b.ky.size ≤ maxLen) : CallC P G 19 [bes v] [] (.ret (strs (keyR [] v))) [] := keys_c v _ hv hk (keys_perm v) (keyR_asc v List.Pairwise.nil).1
theorem keyR_len (v : List BE) : (keyR [] v).length ≤ v.length := by
  rw [(keys_perm v).length_eq]
  have := keysOf_len v []
  simpa using this
end Go.Bd

/- BINDS, 32: the law Ordered: its loops. -/
namespace Go.Bd
set_option maxRecDepth 100000
set_option linter.unusedSimpArgs false
set_option linter.unusedVariables false
open Go Go.Am Go.Proofs Go.Seat

theorem oM_w (l v : List BE) (ks : List ByteArray) (n i k j : Nat) (key : ByteArray) (b c : BE) (m : Bool) (hl : l.length ≤ 1000) (hj : (j : Int) < (l.length : Int)) (hc : l[j]? = some c) (ex : AEx) (s : St) (h : ((((m) = true) → RunL P G none 0 (loopAt P 8 2) (St.mk (slots 129 [(0, AV.sl 5 false (encs l)), (3, int (↑n : Int)), (4, AV.sl 1 false (sts ks)), (6, str key), (7, AV.sl 5 false (encs v)), (8, int (↑k : Int)), (9, AV.ptr 0 0), (10, Am.bool true), (21, AV.sl 1 false (sts ks)), (22, int (↑(List.length ks) : Int)), (23, int (↑i : Int)), (42, AV.sl 5 false (encs v)), (43, int (↑(List.length v) : Int)), (44, int (↑k : Int)), (49, AV.sl 5 false (encs l)), (50, int (↑(List.length l) : Int)), (51, int (↑(j + 1) : Int))]) [AObj.box [str (BE.ky b), int (BE.dv b), int (BE.sq b), int (BE.tm b), str (BE.vl b)]] []) ex s) ∧ (((m) = false) → RunL P G none 0 (loopAt P 8 2) (St.mk (slots 129 [(0, AV.sl 5 false (encs l)), (3, int (↑n : Int)), (4, AV.sl 1 false (sts ks)), (6, str key), (7, AV.sl 5 false (encs v)), (8, int (↑k : Int)), (9, AV.ptr 0 0), (10, Am.bool (BE.ky b == BE.ky c && (BE.dv b == BE.dv c && (BE.sq b == BE.sq c && (BE.tm b == BE.tm c && BE.vl b == BE.vl c))))), (21, AV.sl 1 false (sts ks)), (22, int (↑(List.length ks) : Int)), (23, int (↑i : Int)), (42, AV.sl 5 false (encs v)), (43, int (↑(List.length v) : Int)), (44, int (↑k : Int)), (49, AV.sl 5 false (encs l)), (50, int (↑(List.length l) : Int)), (51, int (↑(j + 1) : Int))]) [AObj.box [str (BE.ky b), int (BE.dv b), int (BE.sq b), int (BE.tm b), str (BE.vl b)]] []) ex s))) : RunL P G none 0 (loopAt P 8 2) (oM l ks n i key v k b m j) ex s := by
  have hz0 : decide ((↑j : Int) < (↑(List.length l) : Int)) = true := (decide_eq_true (by omega))
  have hz1 : (0 : Int) ≤ (↑j : Int) ∧ (encs l)[Int.toNat (↑j : Int)]? = some (enc c) := (el_nat hc)
  rcases Bool.eq_false_or_eq_true ((m)) with c2 | c2
  · have h := h.1 c2
    exact loop_next [kt hz0, ko (Orc.elem (enc c)), kp hz1, kt c2, kv 61 (show Am.Sub (int (IntKind.wrap IntKind.i64 ((↑j : Int) + 1))) (int (↑(j + 1) : Int)) from (Sub.of_wrap (by omega) (by omega) (by omega)))] (others 129 [0, 3, 4, 6, 7, 8, 9, 10, 21, 22, 23, 42, 43, 44, 49, 50, 51]) 1 h (by kernel_rfl)
  · have h := h.2 c2
    exact loop_next [kt hz0, ko (Orc.elem (enc c)), kp hz1, kf c2, kv 61 (show Am.Sub (int (IntKind.wrap IntKind.i64 ((↑j : Int) + 1))) (int (↑(j + 1) : Int)) from (Sub.of_wrap (by omega) (by omega) (by omega)))] (others 129 [0, 3, 4, 6, 7, 8, 9, 10, 21, 22, 23, 42, 43, 44, 49, 50, 51]) 1 h (by kernel_rfl)

theorem oM_e (l v : List BE) (ks : List ByteArray) (n i k j : Nat) (key : ByteArray) (b : BE) (m : Bool) (hj : ¬ (j : Int) < (l.length : Int)) (h : True) : RunL P G none 0 (loopAt P 8 2) (oM l ks n i key v k b m j) (AEx.exit 4) (oN l ks n i key v k b m) := by
  have _ := h
  exact loop_exit [kf (show decide ((↑j : Int) < (↑(List.length l) : Int)) = false from (decide_eq_false (by omega)))] (others 129 [0, 3, 4, 6, 7, 8, 9, 10, 21, 22, 23, 42, 43, 44]) 1 (by kernel_rfl)

def oY (l : List BE) (ks : List ByteArray) (n i : Nat) (v : List BE) : St := { env := slots 129 [(0, bes l), (3, int n), (4, strs ks), (21, strs ks), (22, int ks.length), (23, int i), (7, bes v)], H := [] }
def oX (l : List BE) (n : Nat) : St := { env := slots 129 [(0, bes l), (3, int n)], H := [] }

theorem oV_e (l v : List BE) (ks : List ByteArray) (n i k : Nat) (key : ByteArray) (hk : ¬ (k : Int) < (v.length : Int)) (h : True) : RunL P G none 0 (loopAt P 8 1) (oV l ks n i key v k) (AEx.exit 2) (oY l ks n i v) := by
  have _ := h
  exact loop_exit [kf (show decide ((↑k : Int) < (↑(List.length v) : Int)) = false from (decide_eq_false (by omega)))] (others 129 [0, 3, 4, 7, 21, 22, 23]) 0 (by kernel_rfl)

theorem oS_0 (l : List BE) (ks : List ByteArray) (n : Nat) (k : ByteArray) (v : List BE) (hn : n ≤ 1000) (hv : v.length ≤ 1000) (hv0 : (v.length : Int) ≠ 0) (hs : ks.length ≤ 1000) (hi : (0 : Int) < (ks.length : Int)) (hk : ks[0]? = some k) (h1 : CallC P G 21 [bes l, str k] [] (.ret (bes v)) []) (hM : RunL P G none 0 (loopAt P 8 1) (oV l ks n 0 k v 0) (.exit 2) (oY l ks n 0 v)) (ex : AEx) (s : St) (h : RunL P G none 0 (loopAt P 8 0) (St.mk (slots 129 [(0, AV.sl 5 false (encs l)), (3, int (↑(n + List.length v) : Int)), (4, AV.sl 1 false (sts ks)), (21, AV.sl 1 false (sts ks)), (22, int (↑(List.length ks) : Int)), (23, int 1)]) [] []) ex s) : RunL P G none 0 (loopAt P 8 0) (oS l ks n 0) ex s := by
  have hz3 : Am.Sub (int (↑(List.length (encs v)) : Int)) (int (↑(List.length v) : Int)) := (Sub.of_eq (by simp only [Go.Bd.encs_length]))
  exact loop_next [kt (show decide ((↑0 : Int) < (↑(List.length ks) : Int)) = true from (decide_eq_true (by omega))), ko (Orc.elem (st1 k)), kp (show (0 : Int) ≤ (0 : Int) ∧ (sts ks)[Int.toNat (↑0 : Int)]? = some (st1 k) from (el_nat hk)), kf (Eq.refl false), kf (Eq.refl false), kc [] (@h1 ), kv 43 hz3, kl [5, 24, 25, 26, 27, 28, 29, 30, 31, 32, 33, 34, 35, 36, 37, 38, 39, 40, 41] 0 (@hM ), kv 118 hz3, kf (show ((↑(List.length v) : Int) == 0) = false from (decide_eq_false (by omega))), kv 122 hz3, kv 123 (show Am.Sub (int (IntKind.wrap IntKind.i64 ((↑n : Int) + (↑(List.length v) : Int)))) (int (↑(n + List.length v) : Int)) from (Sub.of_wrap (by omega) (by omega) (by omega)))] (others 129 [0, 3, 4, 21, 22, 23]) 0 h (by kernel_rfl)

theorem oS_k (l : List BE) (ks : List ByteArray) (n i : Nat) (k : ByteArray) (v : List BE) (hn : n ≤ 1000) (hv : v.length ≤ 1000) (hv0 : (v.length : Int) ≠ 0) (hs : ks.length ≤ 1000) (hi0 : (i : Int) > 0) (hi : (i : Int) < (ks.length : Int)) (hk : ks[i]? = some k) (h1 : CallC P G 21 [bes l, str k] [] (.ret (bes v)) []) (hM : RunL P G none 0 (loopAt P 8 1) (oV l ks n i k v 0) (.exit 2) (oY l ks n i v)) (ex : AEx) (s : St) (h : (∃ x3 : ByteArray, ((0 : Int) ≤ (↑i : Int) - 1 ∧ ks[Int.toNat ((↑i : Int) - 1)]? = some x3) ∧ ((((Op.bytesLess (ByteArray.toList x3) (ByteArray.toList k)) = true) → RunL P G none 0 (loopAt P 8 0) (St.mk (slots 129 [(0, AV.sl 5 false (encs l)), (3, int (↑(n + List.length v) : Int)), (4, AV.sl 1 false (sts ks)), (21, AV.sl 1 false (sts ks)), (22, int (↑(List.length ks) : Int)), (23, int (↑(i + 1) : Int))]) [] []) ex s) ∧ (((Op.bytesLess (ByteArray.toList x3) (ByteArray.toList k)) = false) → (AEx.ret = ex) ∧ (St.mk (slots 129 []) [] [] = s))))) : RunL P G none 0 (loopAt P 8 0) (oS l ks n i) ex s := by
  have hz0 : decide ((↑i : Int) < (↑(List.length ks) : Int)) = true := (decide_eq_true (by omega))
  have hz1 : (0 : Int) ≤ (↑i : Int) ∧ (sts ks)[Int.toNat (↑i : Int)]? = some (st1 k) := (el_nat hk)
  have hz2 : decide ((↑i : Int) > (0 : Int)) = true := (decide_eq_true (by omega))
  have hz3 : Am.Sub (int (IntKind.wrap IntKind.i64 ((↑i : Int) - 1))) (int ((↑i : Int) - 1)) := (Sub.of_wrap (by omega) (by omega) rfl)
  obtain ⟨x3, o4, h⟩ := h
  have hz4 : (0 : Int) ≤ (↑i : Int) - 1 ∧ (sts ks)[Int.toNat ((↑i : Int) - 1)]? = some (st1 x3) := (el_int o4)
  rcases Bool.eq_false_or_eq_true ((Op.bytesLess (ByteArray.toList x3) (ByteArray.toList k))) with c5 | c5
  · have h := h.1 c5
    have hz7 : Am.Sub (int (↑(List.length (encs v)) : Int)) (int (↑(List.length v) : Int)) := (Sub.of_eq (by simp only [Go.Bd.encs_length]))
    exact loop_next [kt hz0, ko (Orc.elem (st1 k)), kp hz1, kt hz2, kv 33 hz3, ko (Orc.elem (st1 x3)), kp hz4, kf (show (!Op.bytesLess (ByteArray.toList x3) (ByteArray.toList k)) = false from (congrArg Bool.not (c5))), kc [] (@h1 ), kv 43 hz7, kl [5, 24, 25, 26, 27, 28, 29, 30, 31, 32, 33, 34, 35, 36, 37, 38, 39, 40, 41] 0 (@hM ), kv 118 hz7, kf (show ((↑(List.length v) : Int) == 0) = false from (decide_eq_false (by omega))), kv 122 hz7, kv 123 (show Am.Sub (int (IntKind.wrap IntKind.i64 ((↑n : Int) + (↑(List.length v) : Int)))) (int (↑(n + List.length v) : Int)) from (Sub.of_wrap (by omega) (by omega) (by omega))), kv 124 (show Am.Sub (int (IntKind.wrap IntKind.i64 ((↑i : Int) + 1))) (int (↑(i + 1) : Int)) from (Sub.of_wrap (by omega) (by omega) (by omega)))] (others 129 [0, 3, 4, 21, 22, 23]) 0 h (by kernel_rfl)
  · have h := h.2 c5
    obtain ⟨eX, eS⟩ := h
    exact RunL.to ((show RunL P G none 0 (loopAt P 8 0) (oS l ks n i) AEx.ret (St.mk (slots 129 []) [] []) from loop_exit [kt hz0, ko (Orc.elem (st1 k)), kp hz1, kt hz2, kv 33 hz3, ko (Orc.elem (st1 x3)), kp hz4, kt (show (!Op.bytesLess (ByteArray.toList x3) (ByteArray.toList k)) = true from (congrArg Bool.not (c5)))] (others 129 []) 0 (by kernel_rfl))) eX (SubS.of_eq eS)

theorem oS_e (l : List BE) (ks : List ByteArray) (n i : Nat) (hi : ¬ (i : Int) < (ks.length : Int)) (h : True) : RunL P G none 0 (loopAt P 8 0) (oS l ks n i) (AEx.exit 0) (oX l n) := by
  have _ := h
  exact loop_exit [kf (show decide ((↑i : Int) < (↑(List.length ks) : Int)) = false from (decide_eq_false (by omega)))] (others 129 [0, 3]) 0 (by kernel_rfl)

theorem od_0 (l : List BE) (hf : CallC P G 10 [bes l, nilS] [] (.ret (bool false)) []) (h : True) : CallC P G 8 [bes l] [] (AOut.ret (Am.bool true)) [] := by
  have _ := h
  exact callC_of [kc [] (@Go.Bd.sane_c ), kf (Eq.refl false), kc [] (@hf ), kt (Eq.refl true)] (by kernel_rfl)

theorem od_1 (l : List BE) (ks : List ByteArray) (n : Nat) (hn : (n : Int) = (l.length : Int)) (hf : CallC P G 10 [bes l, nilS] [] (.ret (bool true)) []) (h1 : CallC P G 19 [bes l] [] (.ret (strs ks)) []) (hL : RunL P G none 0 (loopAt P 8 0) (oS l ks 0 0) (.exit 0) (oX l n)) (h : ((↑n : Int) == (↑(List.length l) : Int)) = (true)) : CallC P G 8 [bes l] [] (AOut.ret (Am.bool true)) [] := by
  have e1 := h
  exact callC_out (Sub.bool_eq e1) [kc [] (@Go.Bd.sane_c ), kf (Eq.refl false), kc [] (@hf ), kf (Eq.refl false), kc [] (@h1 ), kv 22 (show Am.Sub (int (↑(List.length (sts ks)) : Int)) (int (↑(List.length ks) : Int)) from (Sub.of_eq (by simp only [Go.Bd.sts_length]))), kl [1, 2, 5, 6, 7, 8, 9, 10, 11, 12, 13, 14, 15, 16, 17, 18, 19, 20, 24, 25, 26, 27, 28, 29, 30, 31, 32, 33, 34, 35, 36, 37, 38, 39, 40, 41, 42, 43, 44, 45, 46, 47, 48, 49, 50, 51, 52, 53, 54, 55, 56, 57, 58, 59, 60, 61, 62, 63, 64, 65, 66, 67, 68, 69, 70, 71, 72, 73, 74, 75, 76, 77, 78, 79, 80, 81, 82, 83, 84, 85, 86, 87, 88, 89, 90, 91, 92, 93, 94, 95, 96, 97, 98, 99, 100, 101, 102, 103, 104, 105, 106, 107, 108, 109, 110, 111, 112, 113, 114, 115, 116, 117, 118, 119, 120, 121, 122, 123, 124, 125, 126, 127, 128] 0 (@hL ), kv 127 (show Am.Sub (int (↑(List.length (encs l)) : Int)) (int (↑(List.length l) : Int)) from (Sub.of_eq (by simp only [Go.Bd.encs_length])))] (by kernel_rfl)

end Go.Bd

/- BINDS, 25: the law ValuesSpec. -/
namespace Go.Bd
set_option maxRecDepth 100000
set_option linter.unusedSimpArgs false
set_option linter.unusedVariables false
open Go Go.Am Go.Proofs Go.Seat

theorem small_max {l : List BE} (h : ∀ b ∈ l, smallB b = true) : ∀ b ∈ l, b.ky.size ≤ maxLen := fun b hb => by
  have := h b hb
  simp only [smallB, Bool.and_eq_true, decide_eq_true_eq] at this
  unfold maxLen
  omega
end Go.Bd

/- BINDS, 33: the law Ordered, put together. -/
namespace Go.Bd
set_option maxRecDepth 100000
set_option linter.unusedSimpArgs false
set_option linter.unusedVariables false
open Go Go.Am Go.Proofs Go.Seat

theorem oM_loop (l v : List BE) (ks : List ByteArray) (n i k : Nat) (key : ByteArray) (b : BE) (hl : l.length ≤ 100) : ∀ q j m, l.length - j = q → j ≤ l.length → RunL P G none 0 (loopAt P 8 2) (oM l ks n i key v k b m j) (.exit 4) (oN l ks n i key v k b (m || (l.drop j).any fun c => decide (b = c))) := by
  intro q
  induction q with
  | zero =>
    intro j m hq hj
    rw [List.drop_eq_nil_of_le (by omega), List.any_nil, Bool.or_false]
    exact oM_e l v ks n i k j key b m (by omega) trivial
  | succ q ih =>
    intro j m hq hj
    have hlt : j < l.length := by omega
    have hx : l[j]? = some l[j] := List.getElem?_eq_getElem hlt
    rw [List.drop_eq_getElem_cons hlt, List.any_cons]
    refine oM_w l v ks n i k j key b _ m (by omega) (by omega) hx _ _ ⟨fun h => ?_, fun h => ?_⟩
    · have := ih (j + 1) true (by omega) (by omega)
      rw [h, Bool.true_or]
      rw [Bool.true_or] at this
      exact this
    · have := ih (j + 1) (decide (b = l[j])) (by omega) (by omega)
      rw [h, Bool.false_or]
      have e : (b.ky == l[j].ky && (b.dv == l[j].dv && (b.sq == l[j].sq && (b.tm == l[j].tm && b.vl == l[j].vl)))) = decide (b = l[j]) := by
        rw [Bool.eq_iff_iff, be_eq, decide_eq_true_iff]
      rw [e]
      exact this
theorem oV_loop (l v : List BE) (ks : List ByteArray) (n i : Nat) (key : ByteArray) (hl : l.length ≤ 100) (hv : v.length ≤ 100) (hd : Desc v) (hm : ∀ b ∈ v, b.ky = key ∧ b ∈ l) : ∀ q k, v.length - k = q → k ≤ v.length → RunL P G none 0 (loopAt P 8 1) (oV l ks n i key v k) (.exit 2) (oY l ks n i v) := by
  intro q
  induction q with
  | zero => intro k hq hk; exact oV_e l v ks n i k key (by omega) trivial
  | succ q ih =>
    intro k hq hk
    have hlt : k < v.length := by omega
    have hb : v[k]? = some v[k] := List.getElem?_eq_getElem hlt
    obtain ⟨hbk, hbl⟩ := hm v[k] (List.getElem_mem hlt)
    have hM := oM_loop l v ks n i k key v[k] hl _ 0 false rfl (by omega)
    have ha : (false || (l.drop 0).any fun c => decide (v[k] = c)) = true := by
      rw [Bool.false_or, List.drop_zero, List.any_eq_true]
      exact ⟨_, hbl, decide_eq_true rfl⟩
    rw [ha] at hM
    have hq' : (ByteArray.toList v[k].ky == ByteArray.toList key) = true := by rw [str_eq]; exact decide_eq_true hbk
    have nx := ih (k + 1) (by omega) (by omega)
    by_cases h0 : k = 0
    · subst h0
      exact oV_0 l v ks n i key _ (by omega) (by omega) hb hM hq' _ _ nx
    · have hy : v[((k : Int) - 1).toNat]? = some (v[k - 1]'(by omega)) := by
        rw [show ((k : Int) - 1).toNat = k - 1 by omega]; exact List.getElem?_eq_getElem _
      have hdd : moreB v[k] (v[k - 1]'(by omega)) = false := List.pairwise_iff_getElem.1 hd (k - 1) k (by omega) hlt (by omega)
      rw [more_iff'] at hdd
      refine oV_k l v ks n i k key _ _ (by omega) (by omega) h0 hb hy hM hq' _ _ ⟨_, ⟨by omega, hy⟩, fun g => absurd g (by omega), fun _ => ⟨fun g1 => ⟨fun g => absurd g (by omega), fun _ => ⟨fun g2 => ⟨fun g => absurd g (by omega), fun _ => nx⟩, fun _ => nx⟩⟩, fun _ => nx⟩⟩

/-- All values of all keys. -/
def tot (l : List BE) (ks : List ByteArray) : Nat := (ks.map fun k => (fil k l).length).sum
theorem tot_cons (b : BE) (t : List BE) : ∀ ks : List ByteArray, ks.Nodup → tot (b :: t) ks = (if b.ky ∈ ks then 1 else 0) + tot t ks
  | [], _ => by simp [tot]
  | k :: ks, h => by
    rw [List.nodup_cons] at h
    have ih := tot_cons b t ks h.2
    have e : ∀ l : List BE, tot l (k :: ks) = (fil k l).length + tot l ks := fun l => by simp [tot]
    rw [e, e, ih, fil_cons, List.length_append]
    by_cases hk : b.ky = k
    · have h2 : b.ky ∉ ks := by rw [hk]; exact h.1
      rw [if_pos hk, if_neg h2, if_pos (by rw [hk]; exact List.mem_cons_self ..), List.length_singleton]; omega
    · have h3 : b.ky ∈ k :: ks ↔ b.ky ∈ ks := by rw [List.mem_cons]; exact ⟨fun h => h.resolve_left hk, .inr⟩
      rw [if_neg hk]
      by_cases h4 : b.ky ∈ ks
      · rw [if_pos h4, if_pos (h3.2 h4), List.length_nil]; omega
      · rw [if_neg h4, if_neg (fun g => h4 (h3.1 g)), List.length_nil]; omega
theorem tot_all : ∀ (l : List BE) (ks : List ByteArray), ks.Nodup → (∀ b ∈ l, b.ky ∈ ks) → tot l ks = l.length
  | [], ks, _, _ => by
    unfold tot
    induction ks with
    | nil => rfl
    | cons k ks ih => rw [List.map_cons, List.sum_cons]; simp_all [fil]
  | b :: t, ks, h, hm => by
    rw [tot_cons b t ks h, if_pos (hm b (List.mem_cons_self ..)), tot_all t ks h fun c hc => hm c (List.mem_cons_of_mem _ hc), List.length_cons]
    omega
theorem oS_loop (l : List BE) (ks : List ByteArray) (hl : l.length ≤ 20) (hs : ks.length ≤ 20) (ha : Asc ks) (hk : ∀ k ∈ ks, ∃ b ∈ l, b.ky = k) : ∀ q i n, ks.length - i = q → i ≤ ks.length → n ≤ 20 * i → RunL P G none 0 (loopAt P 8 0) (oS l ks n i) (.exit 0) (oX l (n + tot l (ks.drop i))) := by
  intro q
  induction q with
  | zero =>
    intro i n hq hi _
    rw [List.drop_eq_nil_of_le (by omega)]
    exact oS_e l ks n i (by omega) trivial
  | succ q ih =>
    intro i n hq hi hn
    have hlt : i < ks.length := by omega
    have hx : ks[i]? = some ks[i] := List.getElem?_eq_getElem hlt
    have hvl : (srt [] (fil ks[i] l)).length = (fil ks[i] l).length := (vals_perm ks[i] l).length_eq
    have hfl := fil_len ks[i] l
    have hv := vals_c l ks[i] hl
    obtain ⟨b, hb, hbk⟩ := hk ks[i] (List.getElem_mem hlt)
    have hf0 : 0 < (fil ks[i] l).length := List.length_pos_of_mem (List.mem_filter.2 ⟨hb, by rw [hbk]; exact decide_eq_true rfl⟩)
    have hM := oV_loop l (srt [] (fil ks[i] l)) ks n i ks[i] (by omega) (by omega) (vals_desc ks[i] l) (fun b hb => by
      have := (vals_perm ks[i] l).mem_iff.1 hb
      rw [fil, List.mem_filter, decide_eq_true_iff] at this
      exact ⟨this.2, this.1⟩) _ 0 rfl (by omega)
    have nx := ih (i + 1) (n + (srt [] (fil ks[i] l)).length) (by omega) (by omega) (by omega)
    have e : n + tot l (ks.drop i) = n + (srt [] (fil ks[i] l)).length + tot l (ks.drop (i + 1)) := by
      have e0 : tot l (ks[i] :: ks.drop (i + 1)) = (fil ks[i] l).length + tot l (ks.drop (i + 1)) := by unfold tot; rw [List.map_cons, List.sum_cons]
      rw [List.drop_eq_getElem_cons hlt, hvl, e0]; omega
    rw [e]
    by_cases h0 : i = 0
    · subst h0
      exact oS_0 l ks n _ _ (by omega) (by omega) (by omega) (by omega) (by omega) hx hv hM _ _ nx
    · have hy : ks[((i : Int) - 1).toNat]? = some (ks[i - 1]'(by omega)) := by
        rw [show ((i : Int) - 1).toNat = i - 1 by omega]; exact List.getElem?_eq_getElem _
      have hlt' : ltS (ks[i - 1]'(by omega)) ks[i] = true := List.pairwise_iff_getElem.1 ha (i - 1) i (by omega) hlt (by omega)
      refine oS_k l ks n i _ _ (by omega) (by omega) (by omega) (by omega) (by omega) (by omega) hx hv hM _ _ ⟨_, ⟨by omega, hy⟩, fun _ => nx, fun g => ?_⟩
      have g' : ltS (ks[i - 1]'(by omega)) ks[i] = false := g
      rw [hlt'] at g'
      cases g'
theorem spec_ordered (l : List BE) (hl : Len l) : CallC P G 8 [bes l] [] (.ret (bool true)) [] := by
  have hf := few0_c l hl
  cases hs : fewB l with
  | false => rw [hs] at hf; exact od_0 l hf trivial
  | true =>
    rw [hs] at hf
    obtain ⟨h20, hsm, _⟩ := few_l (cs := []) (l := l) (by rw [hs]; rfl)
    obtain ⟨a1, a2⟩ := keyR_asc l (l := []) List.Pairwise.nil
    have hkl := keyR_len l
    have hL := oS_loop l (keyR [] l) h20 (by omega) a1 (fun k hk => by simpa using (a2 k).1 hk) _ 0 0 rfl (by omega) (by omega)
    rw [List.drop_zero, Nat.zero_add, tot_all l _ (asc_nodup a1) fun b hb => (a2 b.ky).2 (.inr ⟨b, hb, rfl⟩)] at hL
    exact od_1 l (keyR [] l) l.length rfl hf (keys_ok l (by omega) (small_max hsm)) hL (by simp)
end Go.Bd

/- BINDS, 43: the law Ordered, as it is closed. -/
namespace Go.Bd
set_option maxRecDepth 100000
set_option linter.unusedSimpArgs false
set_option linter.unusedVariables false
open Go Go.Am Go.Proofs Go.Seat

theorem ordered_h (l : List BE) (hl : Len l) : CallC P G 8 [bes l] [] (.ret (Am.bool true)) [] := spec_ordered l hl
end Go.Bd
