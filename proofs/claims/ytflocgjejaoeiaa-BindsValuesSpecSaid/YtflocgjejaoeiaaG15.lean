import Derived.Test.YtflocgjejaoeiaaG14
import Derived.Shelf.Spec.SlicesInsertGrow
import Derived.KernelRfl
/- BINDS, 13: slices.Insert of one bind, shown at the world. -/
namespace Go.Bd
set_option maxRecDepth 100000
set_option linter.unusedSimpArgs false
set_option linter.unusedVariables false
open Go Go.Am Go.Proofs Go.Seat Go.Lib

theorem run_overlaps_own {P : Program} (w : World) (tS tR e : TypeId) (ht : P.underlying tS = some (.slice e)) (size : Nat) (hz : ∀ w, (Go.sizeOf e).run P w = .ok size w)
    (a b : Addr) (la ca lb cb : Nat) (hne : a.block ≠ b.block) (tA tB : TypeId) (kA kB : Nat)
    (hsa : w.shape? a.block = some (tA, kA)) (hsb : w.shape? b.block = some (tB, kB)) (hkA : kA ≠ 0) (hkB : kB ≠ 0) (hf : ∀ o, w.frozen? ⟨b.block, o, none⟩ = false) (hb : b.spot = none) :
    (Extern.SlicesOverlaps.overlaps #[tS, tS] #[tR] #[.slice (some a) la ca, .slice (some b) lb cb]).run P w = .ok (.bool false) w := by
  have hnb : (a.block != b.block) = true := by simpa using hne
  have hnb' : (a.block == b.block) = false := by simpa using hne
  have hfb : w.frozen? b = false := by
    obtain ⟨x, y, z⟩ := b
    simp only at hb; subst hb
    exact hf y
  have hfk : w.frozen? { block := b.block, off := kB } = false := hf kB
  change Sem.run P (α := Value) (do
    let some t := (#[tS, tS] : Array TypeId)[0]? | stuck "slices.overlaps: no parameter types"
    let .slice elem ← underlying t | stuck "slices.overlaps: slice type expected"
    let size ← sizeOf elem
    match (some a : Option Addr), (some b : Option Addr) with
    | some a, some b =>
      if la = 0 ∨ lb = 0 ∨ size = 0 then pure (Value.bool false)
      else if a.block != b.block && (← frozen a) && (← frozen b) then unsupported .addressObserved
      else do
        if a.block != b.block then do
          noView a; noView b
          if ← mayBeOne a b then return Value.bool ((← choose (.extern "sameAddr.stringBytes" 2)) == 1)
        pure (Value.bool (a.block == b.block && a.off < b.off + lb * size && b.off < a.off + la * size))
    | _, _ => pure (Value.bool false)) w = _
  by_cases h0 : la = 0 ∨ lb = 0 ∨ size = 0
  · simp [run_underlying ht, hz, h0]
  · cases kB with
    | zero => exact absurd rfl hkB
    | succ kB =>
      obtain ⟨kA, rfl⟩ : ∃ k, kA = k + 1 := ⟨kA - 1, by omega⟩
      cases hfa : w.frozen? a <;> cases hfe : w.frozen? { block := a.block, off := kA + 1 } <;>
      simp [run_underlying ht, hz, h0, hnb, hnb', frozen, noView, viewAt, mayBeOne, stringish, shape, Sem.run, hsa, hsb, hfb, hfk, hfa, hfe]
/-- copy, elements of any size. -/
theorem run_copy_wide {P : Program} (w : World) (dT sT ty elem : TypeId) (sz : Nat) (b o dLen dCap : Nat) (a : Addr) (sLen sCap : Nat) (cs : List Value) (n : Nat)
    (hu : P.underlying dT = some (.slice elem)) (hs : (P.info? elem).map (·.size) = some sz) (hm : n = Nat.min sLen dLen) (hn : cs.length = n * sz)
    (hsrc : ∀ j v, cs[j]? = some v → w.cell? (a.add j) = some v) (hc : ∀ j, j < cs.length → (w.cell? ⟨b, o + j, none⟩).isSome = true) (hf : ∀ j, j < cs.length → w.frozen? ⟨b, o + j, none⟩ = false) (h1 : ∀ v ∈ cs, v.oneCell' = true) :
    (Builtin.copy_ #[dT, sT] ty #[.slice (some ⟨b, o, none⟩) dLen dCap, .slice (some a) sLen sCap]).run P w = .ok (goInt n) (w.setCells b o cs) := by
  have hl := run_loadCells_list (P := P) w a cs hsrc
  have hst := run_storeCells_cells (P := P) b o cs 0 w (by simpa using hc) (by simpa using hf) h1
  cases hq : P.info? elem with
  | none => simp [hq] at hs
  | some i =>
    have hi : i.size = sz := by simpa [hq] using hs
    simp [Builtin.copy_, run_underlying hu, Builtin.lenOf, Builtin.firstCells, sizeOf, typeInfo, hq, hi, ← hm, ← hn, hl, hst]

set_option maxHeartbeats 4000000 in
theorem ins_shift (b n c i vb vo vc : Nat) (cs vs : List Value) (w : World) (hi : i < n) (hroom : n + 1 ≤ c) (hc63 : c ≤ 9223372036854775807) (hvb : vb ≠ b) (hcl : cs.length = n * 5) (hvl : vs.length = 5)
    (hcs : ∀ j v, cs[j]? = some v → w.cell? ⟨b, j, none⟩ = some v) (hsp : ∀ j, j < (n + 1) * 5 → (w.cell? ⟨b, j, none⟩).isSome = true) (hfz : ∀ j, w.frozen? ⟨b, j, none⟩ = false)
    (hvs : ∀ j v, vs[j]? = some v → w.cell? ⟨vb, vo + j, none⟩ = some v) (h1c : ∀ v ∈ cs, v.oneCell' = true) (h1v : ∀ v ∈ vs, v.oneCell' = true)
    (tA tB : TypeId) (kA kB : Nat) (hsa : w.shape? vb = some (tA, kA)) (hsb : w.shape? b = some (tB, kB)) (hkA : kA ≠ 0) (hkB : kB ≠ 0) :
    Calls Try.prog 31 #[.slice (some ⟨b, 0, none⟩) n c, .int .i64 i, .slice (some ⟨vb, vo, none⟩) 1 vc] w fun e w' =>
      e = .returned (.slice (some ⟨b, 0, none⟩) (n + 1) c) ∧ w' = (w.drew.setCells b ((i + 1) * 5) (cs.drop (i * 5))).setCells b (i * 5) vs := by
  have hz2 : ¬ ((i : Int) = (n : Int)) := by omega
  have hsz : (Try.prog.info? 27).map (·.size) = some 5 := by kernel_rfl
  have hov : ∀ lb cb o, (callFunc 55 #[.slice (some ⟨vb, vo, none⟩) 1 vc, .slice (some ⟨b, o, none⟩) lb cb]).run Try.prog w = .ok (.value (.bool false)) w := fun lb cb o => by
    rw [run_callFunc_extern Try.func55 (by kernel_rfl) (by kernel_rfl) (by kernel_rfl) (e := Extern.SlicesOverlaps.overlaps #[22, 22] #[4]) (by kernel_rfl),
      run_overlaps_own w 22 4 27 Try.underlying22 5 Try.sizeOf27 ⟨vb, vo, none⟩ ⟨b, o, none⟩ 1 vc lb cb hvb tA tB kA kB hsa hsb hkA hkB hfz rfl]
    rfl
  have mixed : Try.prog.follows .mixedOrders = true := by kernel_rfl
  have hw1 : IntKind.i64.wrap ((i : Int) + 1) = (i : Int) + 1 := by rw [IntKind.wrap_i64]; omega
  have hw2 : IntKind.i64.wrap ((n : Int) + 1) = (n : Int) + 1 := by rw [IntKind.wrap_i64]; omega
  have hdl : (cs.drop (i * 5)).length = (n - i) * 5 := by rw [List.length_drop, hcl, Nat.sub_mul]
  have hb1 : (0 : Int) ≤ (i : Int) + 1 := by omega
  have hin : i ≤ n := by omega
  have htn : ((i : Int) + 1).toNat = i + 1 := by omega
  have hb2 : ¬ (c = i + 1) := by omega
  have hb3 : (i : Int) ≤ (n : Int) + 1 := by omega
  have hb4 : ¬ (c = i) := by omega
  have hcp1 : ∀ ty dc sc, (Builtin.copy_ #[22, 22] ty #[.slice (some ⟨b, (i + 1) * 5, none⟩) (n - i) dc, .slice (some ⟨b, i * 5, none⟩) (n + 1 - i) sc]).run Try.prog w.drew = .ok (goInt ((n - i : Nat) : Int)) (w.drew.setCells b ((i + 1) * 5) (cs.drop (i * 5))) := fun ty dc sc =>
    run_copy_wide w.drew _ _ ty 27 5 b ((i + 1) * 5) (n - i) dc ⟨b, i * 5, none⟩ (n + 1 - i) sc (cs.drop (i * 5)) (n - i) Try.underlying22 hsz (by simp only [Nat.min_def]; split <;> omega) hdl
      (fun j v hj => by rw [Addr.add_lit]; exact hcs (i * 5 + j) v (by rwa [List.getElem?_drop] at hj))
      (fun j hj => by rw [hdl] at hj; exact hsp _ (by omega)) (fun j hj => hfz _) (fun v hv => h1c v (List.mem_of_mem_drop hv))
  obtain ⟨W1, hW1⟩ : ∃ W1, W1 = w.drew.setCells b ((i + 1) * 5) (cs.drop (i * 5)) := ⟨_, rfl⟩
  have hsp1 : ∀ k, k < (n + 1) * 5 → (W1.cell? ⟨b, k, none⟩).isSome = true := fun k hk => by
    rw [hW1]
    exact isSome_setCells b _ _ _ (fun j hj => by rw [hdl] at hj; exact hsp _ (by omega)) _ (hsp k hk)
  have hcp2 : ∀ (W : World), (∀ x, W.cell? x = W1.cell? x) → (∀ x, W.frozen? x = W1.frozen? x) → ∀ ty dc, (Builtin.copy_ #[22, 22] ty #[.slice (some ⟨b, i * 5, none⟩) (n + 1 - i) dc, .slice (some ⟨vb, vo, none⟩) 1 vc]).run Try.prog W = .ok (goInt 1) (W.setCells b (i * 5) vs) := fun W hWc hWf ty dc =>
    run_copy_wide W _ _ ty 27 5 b (i * 5) (n + 1 - i) dc ⟨vb, vo, none⟩ 1 vc vs 1 Try.underlying22 hsz (by simp only [Nat.min_def]; split <;> omega) (by omega)
      (fun j v hj => by
        rw [Addr.add_lit, hWc, hW1, World.cell?_setCells_out b _ _ _ _ (fun h _ => absurd h hvb)]
        exact hvs j v hj)
      (fun j hj => by rw [hWc]; exact hsp1 _ (by omega)) (fun j hj => by rw [hWf, hW1, World.frozen?_setCells]; exact hfz _) h1v
  rw [← hW1] at hcp1
  go_enter Try.func31, Try.ntmps31
  go_wp2_with (simp only [hov])
  go_region_law_o (refine step_copy_runI rfl _ _ 22 22 rfl _ _ (by simp [Act.eval, Act.put]) (by simp [Act.eval, Act.put]) (hcp1 _ _ _) ?_)
  go_wp2_with (at_builtin; refine wpList_copy_runI _ rfl _ _ 22 22 rfl _ _ rfl rfl (hcp2 _ (fun _ => rfl) (fun _ => rfl) _ _) ?_)
  go_ret
  first | exact ⟨rfl, rfl⟩ | exact ⟨rfl, by rw [hW1]⟩
/-- The zero bind. -/
abbrev zB : Value := .agg #[.string ⟨#[]⟩, .int .i64 0, .int .i64 0, .int .i64 0, .string ⟨#[]⟩]
def rowI (cs : List Value) (n i G : Nat) : Array Value := (cs.take (i * 5)).toArray ++ Builtin.zeroCells zB.cells (n + 1 - i) ++ Builtin.zeroCells zB.cells (G - (n + 1))
theorem rowI_size (cs : List Value) (n i G : Nat) (hcl : cs.length = n * 5) (hi : i < n) (hG : n + 1 ≤ G) : (rowI cs n i G).size = G * 5 := by
  have : zB.cells.size = 5 := rfl
  simp [rowI, Builtin.zeroCells, this, hcl]
  omega
set_option maxHeartbeats 4000000 in
theorem ins_grow (b n c i vb vo vc : Nat) (cs vs : List Value) (w : World) (hi : i < n) (hnc : n ≤ c) (hroom : c < n + 1) (hbig : (n + 1) * 56 ≤ 140737488355328) (hcl : cs.length = n * 5) (hvl : vs.length = 5)
    (hcs : ∀ j v, cs[j]? = some v → w.cell? ⟨b, j, none⟩ = some v)
    (hvs : ∀ j v, vs[j]? = some v → w.cell? ⟨vb, vo + j, none⟩ = some v) (h1c : ∀ v ∈ cs, v.oneCell' = true) (h1v : ∀ v ∈ vs, v.oneCell' = true) :
    Calls Try.prog 31 #[.slice (some ⟨b, 0, none⟩) n c, .int .i64 i, .slice (some ⟨vb, vo, none⟩) 1 vc] w fun e w' =>
      e = .returned (.slice (some ⟨w.heap.size, 0, none⟩) (n + 1) (grownCap w (n + 1) c 27)) ∧
      w' = (((w.alloc (.cells (rowI cs n i (grownCap w (n + 1) c 27)) 27)).drew.setCells w.heap.size (i * 5) vs).drew).setCells w.heap.size ((i + 1) * 5) (cs.drop (i * 5)) := by
  have hz2 : ¬ ((i : Int) = (n : Int)) := by omega
  have hz3 : (c : Int) < (n : Int) + 1 := by omega
  have hsz : (Try.prog.info? 27).map (·.size) = some 5 := by kernel_rfl
  have hsb : (Try.prog.info? 27).map (fun i => (i.size, i.bytes, i.zero)) = some (5, 56, some zB) := by kernel_rfl
  obtain ⟨i0, hi0, hzs, hzb, hz0⟩ : ∃ i0, Try.prog.info? 27 = some i0 ∧ i0.size = 5 ∧ i0.bytes = 56 ∧ i0.zero = some zB := by
    cases hq : Try.prog.info? 27 with
    | none => rw [hq] at hsb; cases hsb
    | some i0 =>
      rw [hq] at hsb
      simp only [Option.map_some, Option.some.injEq, Prod.mk.injEq] at hsb
      exact ⟨i0, rfl, hsb.1, hsb.2.1, hsb.2.2⟩
  have mixed : Try.prog.follows .mixedOrders = true := by kernel_rfl
  have hbw : b < w.heap.size := block_lt_of_cell (hcs 0 _ (List.getElem?_eq_getElem (by omega)))
  have hvw : vb < w.heap.size := block_lt_of_cell (hvs 0 _ (List.getElem?_eq_getElem (by omega)))
  have hkk : (n : Int) + 1 - (i : Int) = ((n + 1 - i : Nat) : Int) := by omega
  have hik : i + (n + 1 - i) = n + 1 := by omega
  have hold : (Builtin.firstCells i0.size i (.slice (some ⟨b, 0, none⟩) i c)).run Try.prog w.drew = .ok (cs.take (i * 5)).toArray w.drew := by
    rw [hzs]
    exact run_firstCells_some w.drew 5 i ⟨b, 0, none⟩ i c (cs.take (i * 5)) (by rw [List.length_take]; omega) (fun j v hj => by
      rw [Addr.add_lit, Nat.zero_add]
      rw [List.getElem?_take] at hj
      split at hj
      · exact hcs j v hj
      · cases hj)
  have hrz : ∀ ty, (Builtin.append_ #[22, 3] ty #[.slice (some ⟨b, 0, none⟩) i c, .int .i64 ((n : Int) + 1 - (i : Int))]).run Try.prog w =
      .ok (.slice (some ⟨w.heap.size, 0, none⟩) (n + 1) (grownCap w (n + 1) c 27)) (w.drew.alloc (.cells (rowI cs n i (grownCap w (n + 1) c 27)) 27)) := fun ty => by
    have h := Lib.run_append_grow_zeros w 22 3 ty 27 i0 zB .i64 .i64 Try.underlying22 Try.underlying3 hi0 hz0 (some ⟨b, 0, none⟩) i c (cs.take (i * 5)) hold (n + 1 - i) (by omega) (by omega) (by omega) (by omega) (by rw [hzb]; omega) (by rw [hzb, hik]; exact growslice_fits hroom hbig)
    rw [hik] at h
    rw [hkk]
    exact h
  obtain ⟨G, hG⟩ : ∃ G, G = grownCap w (n + 1) c 27 := ⟨_, rfl⟩
  have hGn : n + 1 ≤ G := by rw [hG]; exact grownCap_ge w _ _ _
  have hG63 : G ≤ 9223372036854775807 := by
    have := grownCap_le_maxLen w (n + 1) c 27 (by unfold maxLen; omega)
    rw [← hG] at this
    unfold maxLen at this
    omega
  obtain ⟨ROW, hROW⟩ : ∃ ROW : Array Value, ROW = rowI cs n i G := ⟨_, rfl⟩
  rw [← hG] at hrz ⊢
  rw [← hROW] at hrz ⊢
  have hRl : ROW.size = G * 5 := by rw [hROW]; exact rowI_size cs n i G hcl hi hGn
  obtain ⟨W1, hW1⟩ : ∃ W1, W1 = w.drew.alloc (.cells ROW 27) := ⟨_, rfl⟩
  rw [← hW1] at hrz
  have hN : ∀ j, j < (n + 1) * 5 → (W1.cell? ⟨w.heap.size, j, none⟩).isSome = true := fun j hj => by
    rw [hW1, World.cell?_alloc_at (w := w.drew) ROW _ w.heap.size j rfl, Array.getElem?_eq_getElem (by omega)]; rfl
  have hNf : ∀ j, W1.frozen? ⟨w.heap.size, j, none⟩ = false := fun j => by rw [hW1]; exact World.frozen?_alloc_at (w := w.drew) ROW _ w.heap.size j rfl
  have hOb : ∀ j v, w.cell? ⟨b, j, none⟩ = some v → W1.cell? ⟨b, j, none⟩ = some v := fun j v h => by rw [hW1, World.cell?_alloc_past (w := w.drew) _ b j hbw]; exact h
  have hOv : ∀ j v, w.cell? ⟨vb, j, none⟩ = some v → W1.cell? ⟨vb, j, none⟩ = some v := fun j v h => by rw [hW1, World.cell?_alloc_past (w := w.drew) _ vb j hvw]; exact h
  have hcpA : ∀ (W : World), (∀ x, W.cell? x = W1.cell? x) → (∀ x, W.frozen? x = W1.frozen? x) → ∀ ty dc, (Builtin.copy_ #[22, 22] ty #[.slice (some ⟨w.heap.size, i * 5, none⟩) (n + 1 - i) dc, .slice (some ⟨vb, vo, none⟩) 1 vc]).run Try.prog W = .ok (goInt 1) (W.setCells w.heap.size (i * 5) vs) := fun W hWc hWf ty dc =>
    run_copy_wide W _ _ ty 27 5 w.heap.size (i * 5) (n + 1 - i) dc ⟨vb, vo, none⟩ 1 vc vs 1 Try.underlying22 hsz (by simp only [Nat.min_def]; split <;> omega) (by omega)
      (fun j v hj => by rw [Addr.add_lit, hWc]; exact hOv _ v (hvs j v hj))
      (fun j hj => by rw [hWc]; exact hN _ (by omega)) (fun j hj => by rw [hWf]; exact hNf _) h1v
  have hGi : ¬ (G = i) := by omega
  have hGim : ¬ (G = i + 1) := by omega
  have hci : ¬ (c = i) := by omega
  have hbN : b ≠ w.heap.size := by omega
  have hdl : (cs.drop (i * 5)).length = (n - i) * 5 := by rw [List.length_drop, hcl, Nat.sub_mul]
  have hcpB : ∀ (W : World), (∀ x, W.cell? x = (W1.setCells w.heap.size (i * 5) vs).cell? x) → (∀ x, W.frozen? x = (W1.setCells w.heap.size (i * 5) vs).frozen? x) → ∀ ty dc sc, (Builtin.copy_ #[22, 22] ty #[.slice (some ⟨w.heap.size, (i + 1) * 5, none⟩) (n - i) dc, .slice (some ⟨b, i * 5, none⟩) (n - i) sc]).run Try.prog W = .ok (goInt ((n - i : Nat) : Int)) (W.setCells w.heap.size ((i + 1) * 5) (cs.drop (i * 5))) := fun W hWc hWf ty dc sc =>
    run_copy_wide W _ _ ty 27 5 w.heap.size ((i + 1) * 5) (n - i) dc ⟨b, i * 5, none⟩ (n - i) sc (cs.drop (i * 5)) (n - i) Try.underlying22 hsz (by simp only [Nat.min_def]; split <;> omega) hdl
      (fun j v hj => by
        rw [Addr.add_lit, hWc, World.cell?_setCells_out _ _ _ _ _ (fun h _ => absurd h hbN)]
        exact hOb _ v (hcs (i * 5 + j) v (by rwa [List.getElem?_drop] at hj)))
      (fun j hj => by rw [hdl] at hj; rw [hWc]; exact isSome_setCells _ _ _ _ (fun t ht => hN _ (by omega)) _ (hN _ (by omega)))
      (fun j hj => by rw [hWf, World.frozen?_setCells]; exact hNf _) (fun v hv => h1c v (List.mem_of_mem_drop hv))
  subst hW1
  have hE1 : ∀ x, ((w.alloc (.cells ROW 27)).drew).cell? x = (w.drew.alloc (.cells ROW 27)).cell? x := fun x => rfl
  have hE2 : ∀ x, ((w.alloc (.cells ROW 27)).drew).frozen? x = (w.drew.alloc (.cells ROW 27)).frozen? x := fun x => rfl
  have hF1 : ∀ x, (((w.alloc (.cells ROW 27)).drew.setCells w.heap.size (i * 5) vs).drew).cell? x = ((w.drew.alloc (.cells ROW 27)).setCells w.heap.size (i * 5) vs).cell? x := fun x => rfl
  have hF2 : ∀ x, (((w.alloc (.cells ROW 27)).drew.setCells w.heap.size (i * 5) vs).drew).frozen? x = ((w.drew.alloc (.cells ROW 27)).setCells w.heap.size (i * 5) vs).frozen? x := fun x => rfl
  have hw1 : IntKind.i64.wrap ((i : Int) + 1) = (i : Int) + 1 := by rw [IntKind.wrap_i64]; omega
  have hb1 : (0 : Int) ≤ (i : Int) + 1 := by omega
  have hin : i ≤ n := by omega
  have htn : ((i : Int) + 1).toNat = i + 1 := by omega
  have hb3 : (i : Int) ≤ (n : Int) := by omega
  clear hkk hik hold hROW hG hRl
  go_enter Try.func31, Try.ntmps31
  go_wp2_with (first
    | (at_builtin; refine Lib.wpList_append_run _ rfl _ _ _ _ rfl _ _ rfl rfl _ _ (hrz _) ?_)
    | (at_builtin; refine wpList_copy_runI _ rfl _ _ 22 22 rfl _ _ rfl rfl (hcpA _ hE1 hE2 _ _) ?_)
    | (at_builtin; refine wpList_copy_runI _ rfl _ _ 22 22 rfl _ _ rfl rfl (hcpB _ (fun _ => rfl) (fun _ => rfl) _ _ _) ?_))
  go_region_law_o (refine step_copy_runI rfl _ _ 22 22 rfl (.slice (some ⟨w.heap.size, (i + 1) * 5, none⟩) (n - i) (G - (i + 1))) (.slice (some ⟨b, i * 5, none⟩) (n - i) (c - i)) (by simp [Act.eval, Act.put]) (by simp [Act.eval, Act.put]) (hcpB _ hF1 hF2 3 (G - (i + 1)) (c - i)) ?_)
  go_wp2
  go_ret
  exact ⟨rfl, rfl⟩
end Go.Bd

/- BINDS, 14: slices.Insert's contract inside a row. -/
namespace Go.Bd
set_option maxRecDepth 100000
set_option linter.unusedSimpArgs false
set_option linter.unusedVariables false
open Go Go.Am Go.Proofs Go.Seat Go.Lib

theorem setCells_same (b : Nat) : ∀ (vs : List Value) (o : Nat) (w : World), (w.setCells b o vs).os = w.os ∧ (w.setCells b o vs).tape = w.tape ∧ (w.setCells b o vs).output = w.output ∧ (w.setCells b o vs).drawn = w.drawn ∧ (w.setCells b o vs).heap.size = w.heap.size ∧ ∀ i, i ≠ b → (w.setCells b o vs).heap[i]? = w.heap[i]?
  | [], _, _ => ⟨rfl, rfl, rfl, rfl, rfl, fun _ _ => rfl⟩
  | v :: r, o, w => by
    obtain ⟨h1, h2, h3, h4, h5, h6⟩ := setCells_same b r (o + 1) (w.setCell ⟨b, o, none⟩ v)
    rw [World.setCells]
    refine ⟨h1, h2, h3, h4, by rw [h5]; simp [World.setCell], fun i hi => ?_⟩
    rw [h6 i hi]
    simp [World.setCell, Array.getElem?_modify, Ne.symm hi]

/-- The cells of a bind. -/
def encW (b : BE) : List Value := [.string b.ky, .int .i64 b.dv, .int .i64 b.sq, .int .i64 b.tm, .string b.vl]
def fl (l : List BE) : List Value := l.flatMap encW
theorem encW_len (b : BE) : (encW b).length = 5 := rfl
theorem encW_one (b : BE) : ∀ v ∈ encW b, v.oneCell' = true := by
  intro v hv
  simp only [encW, List.mem_cons, List.not_mem_nil, or_false] at hv
  rcases hv with h | h | h | h | h <;> subst h <;> rfl
theorem fl_cons (b : BE) (l : List BE) : fl (b :: l) = encW b ++ fl l := rfl
theorem fl_append (a b : List BE) : fl (a ++ b) = fl a ++ fl b := by simp [fl]
theorem fl_len : ∀ l : List BE, (fl l).length = l.length * 5
  | [] => rfl
  | b :: l => by rw [fl_cons, List.length_append, fl_len l, encW_len, List.length_cons]; omega
theorem fl_one (l : List BE) : ∀ v ∈ fl l, v.oneCell' = true := by
  intro v hv
  obtain ⟨b, _, h⟩ := List.mem_flatMap.1 hv
  exact encW_one b v h
theorem fl_get : ∀ {l : List BE} {k j : Nat} (hk : k < l.length), j < 5 → (fl l)[k * 5 + j]? = some ((encW l[k]).getD j undef)
  | b :: l, 0, j, _, hj => by
    rw [fl_cons, Nat.zero_mul, Nat.zero_add, List.getElem?_append_left (by rw [encW_len]; exact hj), List.getElem?_eq_getElem (by rw [encW_len]; exact hj)]
    simp [List.getD_eq_getElem?_getD, List.getElem?_eq_getElem (show j < (encW b).length by rw [encW_len]; exact hj)]
  | b :: l, k + 1, j, hk, hj => by
    rw [fl_cons, List.getElem?_append_right (by rw [encW_len]; omega), encW_len, show (k + 1) * 5 + j - 5 = k * 5 + j by omega]
    exact fl_get (by simpa using hk) hj
theorem fl_take (l : List BE) (i : Nat) : fl (l.take i) = (fl l).take (i * 5) := by
  rcases Nat.lt_or_ge l.length i with h | h
  · rw [List.take_of_length_le (by omega), List.take_of_length_le (by rw [fl_len]; omega)]
  · conv => rhs; rw [← List.take_append_drop i l, fl_append]
    rw [List.take_left' (by rw [fl_len, List.length_take]; omega)]
theorem fl_drop (l : List BE) (i : Nat) : fl (l.drop i) = (fl l).drop (i * 5) := by
  rcases Nat.lt_or_ge l.length i with h | h
  · rw [List.drop_of_length_le (by omega), List.drop_of_length_le (by rw [fl_len]; omega)]; rfl
  · conv => rhs; rw [← List.take_append_drop i l, fl_append]
    rw [List.drop_left' (by rw [fl_len, List.length_take]; omega)]

theorem enc_prep (w : World) (M : Nat → Prop) (b : BE) {j : Nat} (hj : j < 5) : PRep w M ((enc b).getD j .dead) ((encW b).getD j undef) := by
  match j, hj with
  | 0, _ => exact .lit _
  | 1, _ => exact .lit _
  | 2, _ => exact .lit _
  | 3, _ => exact .lit _
  | 4, _ => exact .lit _
theorem enc_val {V : View} {b : BE} {j : Nat} {v : Value} (hj : j < 5) (h : Rep V ((enc b).getD j .dead) v) : v = (encW b).getD j undef := by
  match j, hj with
  | 0, _ => exact rep_lit h
  | 1, _ => exact rep_lit h
  | 2, _ => exact rep_lit h
  | 3, _ => exact rep_lit h
  | 4, _ => exact rep_lit h
/-- A row of binds in a new state, as data; the old row let go. -/
theorem ins_goes {V : View} {w' : World} {bb cap : Nat} {y : List BE} {xs : List (List AV)} (hH : V.H = [.arr 0 5 false xs]) (hG : HeapRep G V) (hbb : bb = V.ρ 0 ∨ V.w.heap.size ≤ bb)
    (h1 : w'.os = V.w.os) (h2 : w'.tape = V.w.tape) (h3 : w'.output = V.w.output) (h4 : V.w.heap.size ≤ w'.heap.size) (h5 : V.w.drawn ≤ w'.drawn) (h6 : ∀ i, i < V.w.heap.size → i ≠ V.ρ 0 → w'.heap[i]? = V.w.heap[i]?)
    (hc : ∀ j v, (fl y)[j]? = some v → w'.cell? ⟨bb, j, none⟩ = some v) (hcap : y.length ≤ cap) : Goes G V [.gone] (.ret (bes y)) (.returned (.slice (some ⟨bb, 0, none⟩) y.length cap)) w' := by
  have hlen : V.H.length = 1 := by rw [hH]; rfl
  have hM : V.M (V.ρ 0) := hG.mutb 0 _ (by rw [hH]; rfl) rfl
  have hlt : V.ρ 0 < V.w.heap.size := hG.lt 0 (by omega)
  have hst : Step V { w := w', M := fun x => V.M x ∧ x ≠ bb, H := [.gone], ρ := V.ρ } := {
    os := h1
    tape := h2
    output := h3
    size := h4
    drawn := trivial
    keep := fun b hb hn => ⟨h6 b hb fun e => hn 0 (by omega) e.symm, ⟨fun h => h.1, fun h => ⟨h, fun e => by
      rcases hbb with h' | h'
      · exact hn 0 (by omega) (by omega)
      · omega⟩⟩⟩
    data := fun b hb hn => ⟨h6 b hb fun e => hn (e ▸ hM), fun h => hn h.1⟩
    hlen := by rw [hlen]; exact Nat.le_refl _
    fresh := fun id hid => .inl ⟨by rw [hlen]; exact hid, rfl⟩
    obj := fun id hid => by
      have : id = 0 := by omega
      subst this
      unfold ObjStep
      rw [hH]
      exact trivial }
  refine ⟨_, rfl, hst, ?_, rfl, ?_⟩
  · exact {
      lt := fun id hid => by
        have : id = 0 := by have : id < 1 := hid; omega
        subst this
        exact Nat.lt_of_lt_of_le hlt h4
      obj := fun id o ho => by
        match id, ho with
        | 0, ho =>
          injection ho with ho
          subst ho
          exact trivial
      inj := fun i j hi hj _ => by
        have : i < 1 := hi
        have : j < 1 := hj
        omega
      mutb := fun id o ho hop => by
        match id, ho with
        | 0, ho =>
          injection ho with ho
          subst ho
          cases hop
      glob := hG.glob_step hst }
  · have key : PRep w' (fun x => V.M x ∧ x ≠ bb) (.sl 5 false (encs y)) (.slice (some ⟨bb, 0, none⟩) (encs y).length cap) :=
      .sl 5 false (encs y) (some ⟨bb, 0, none⟩) cap bb 0 (fun k j => ((y[k]?).map fun b => (encW b).getD j undef).getD undef) (fun _ => rfl) (fun _ _ h => h.2 rfl) (by rw [encs_length]; exact hcap) (fun h => by cases h)
        (fun x hx => by obtain ⟨b, _, rfl⟩ := List.mem_map.1 hx; rfl)
        (fun k j hk hj => by
          rw [encs_length] at hk
          rw [List.getElem?_eq_getElem hk, Nat.zero_add]
          exact hc _ _ (fl_get hk hj))
        (fun k j hk hj => by
          rw [encs_length] at hk
          rw [List.getElem?_eq_getElem hk]
          have hm : (encW y[k]).getD j undef ∈ encW y[k] := by
            rw [List.getD_eq_getElem?_getD, List.getElem?_eq_getElem (by rw [encW_len]; exact hj)]
            exact List.getElem_mem _
          exact encW_one _ _ hm)
        (fun k j hk hj => by
          rw [encs_length] at hk
          rw [List.getElem?_eq_getElem hk]
          have e : (encs y).getD k [] = enc y[k] := by rw [List.getD_eq_getElem?_getD, encs_get?, List.getElem?_eq_getElem hk]; rfl
          rw [e]
          exact enc_prep _ _ _ hj)
    rw [encs_length] at key
    exact Rep.pure _ _ key

theorem alloc_size (w : World) (o : Obj) : (w.alloc o).heap.size = w.heap.size + 1 := by
  show (w.heap.push _).size = _
  rw [Array.size_push]
theorem alloc_cell (w : World) (R : Array Value) (t : TypeId) (j : Nat) : (w.alloc (.cells R t)).cell? ⟨w.heap.size, j, none⟩ = R[j]? := by
  unfold World.cell? World.alloc
  simp only [Array.getElem?_push_size]
  rfl
theorem alloc_old (w : World) (o : Obj) (k : Nat) (hk : k < w.heap.size) : (w.alloc o).heap[k]? = w.heap[k]? := by
  show (w.heap.push _)[k]? = _
  rw [Array.getElem?_push_lt hk, Array.getElem?_eq_getElem hk]
theorem drew_os (w : World) : w.drew.os = w.os := rfl
theorem drew_tape (w : World) : w.drew.tape = w.tape := rfl
theorem drew_output (w : World) : w.drew.output = w.output := rfl
theorem drew_heap (w : World) : w.drew.heap = w.heap := rfl
theorem drew_drawn (w : World) : w.drew.drawn = w.drawn + 1 := rfl
theorem drew_cell (w : World) (a : Addr) : w.drew.cell? a = w.cell? a := rfl
set_option maxHeartbeats 2000000 in
theorem ins_in (x w : List BE) (b : BE) (i : Nat) (hi : i < x.length) (hx : x.length ≤ 1000000000) : CallC P G 31 [.own 0 0 0 x.length, int i, .sl 5 true [enc b]] [.arr 0 5 false (encs (x ++ w))] (.ret (bes (x.take i ++ [b] ++ x.drop i))) [.gone] := by
  intro V vs hH hG hr
  rw [callsIn_wide]
  obtain ⟨v0, v1, v2, rfl⟩ : ∃ v0 v1 v2, vs = [v0, v1, v2] := by
    have := hr.1
    match vs, this with
    | [a, b, c], _ => exact ⟨a, b, c, rfl⟩
  have e1 := rep_lit hr.tail.head
  subst e1
  have hs := rep_sl hr.tail.tail.head
  have ho := (rep_own hr.head).2
  have hH0 : V.H[0]? = some (.arr 0 5 false (encs (x ++ w))) := by rw [hH]; rfl
  rw [hH0] at ho
  obtain ⟨A, cap, c, t, rfl, hA, hle, hmax, hheap, hsize⟩ := ho.2 rfl
  obtain ⟨t', c', hheap', hcs0, _, hcell⟩ := hG.obj 0 _ hH0
  rw [hheap] at hheap'
  injection hheap' with hheap'
  injection hheap' with ec et
  subst ec et
  have hcap0 : cap ≠ 0 := by omega
  rw [Nat.zero_add] at hsize
  rw [hA hcap0, Nat.zero_mul]
  cases hs with
  | sl _ _ _ A2 cap2 vb vo f hA2 hb2 hcap2 ht2 hsz2 hc2 ho2 hr2 =>
    have e2 : A2 = some ⟨vb, vo, none⟩ := hA2 (by simp)
    subst e2
    have hMb : ¬ V.M vb := hb2 (by simp) (by decide)
    have hM : V.M (V.ρ 0) := hG.mutb 0 _ hH0 rfl
    have hne : vb ≠ V.ρ 0 := fun e => hMb (e ▸ hM)
    have hbw : V.ρ 0 < V.w.heap.size := hG.lt 0 (by rw [hH]; exact Nat.zero_lt_one)
    have hvs : ∀ j v, (encW b)[j]? = some v → V.w.cell? ⟨vb, vo + j, none⟩ = some v := fun j v hj => by
      have hj5 : j < 5 := (List.getElem?_eq_some_iff.1 hj).1
      have h1 := hc2 0 j Nat.zero_lt_one hj5
      have h2 := enc_val (V := V) hj5 (.pure _ _ (hr2 0 j Nat.zero_lt_one hj5))
      rw [h2] at h1
      rw [List.getD_eq_getElem?_getD, hj] at h1
      simpa using h1
    have hxl : ∀ k (hk : k < x.length), (encs (x ++ w)).getD k [] = enc x[k] := fun k hk => by
      rw [List.getD_eq_getElem?_getD, encs_get?, List.getElem?_append_left hk, List.getElem?_eq_getElem hk]; rfl
    have hcs : ∀ j v, (fl x)[j]? = some v → V.w.cell? ⟨V.ρ 0, j, none⟩ = some v := fun j v hj => by
      have hjl : j < x.length * 5 := by rw [← fl_len]; exact (List.getElem?_eq_some_iff.1 hj).1
      have hk : j / 5 < x.length := by omega
      have hm : j % 5 < 5 := Nat.mod_lt _ (by decide)
      obtain ⟨u, hu, _, hu2⟩ := hcell (j / 5) (j % 5) (by rw [encs_length, List.length_append]; omega) hm
      rw [hxl _ hk] at hu2
      have hu3 := enc_val hm hu2
      have hg := fl_get hk hm
      rw [show j / 5 * 5 + j % 5 = j by omega] at hg hu
      rw [hg] at hj
      injection hj with hj
      simp only [World.cell?, hheap]
      show c[j]? = some v
      rw [hu, hu3, hj]
    have hy : (x.take i ++ [b] ++ x.drop i).length = x.length + 1 := by simp; omega
    have hfy : fl (x.take i ++ [b] ++ x.drop i) = (fl x).take (i * 5) ++ encW b ++ (fl x).drop (i * 5) := by
      rw [fl_append, fl_append, fl_take, fl_drop]; simp [fl]
    have hdl : ((fl x).drop (i * 5)).length = (x.length - i) * 5 := by rw [List.length_drop, fl_len, Nat.sub_mul]
    have htl : ((fl x).take (i * 5)).length = i * 5 := by rw [List.length_take, fl_len]; omega
    -- what stands where, in the end
    have fin : ∀ (W : World) (bb : Nat), (∀ j v, j < i * 5 → (fl x)[j]? = some v → W.cell? ⟨bb, j, none⟩ = some v) → (∀ j (hj : j < 5), W.cell? ⟨bb, i * 5 + j, none⟩ = some ((encW b)[j]'(by rw [encW_len]; exact hj))) → (∀ j (hj : j < ((fl x).drop (i * 5)).length), W.cell? ⟨bb, (i + 1) * 5 + j, none⟩ = some ((fl x).drop (i * 5))[j]) → ∀ j v, (fl (x.take i ++ [b] ++ x.drop i))[j]? = some v → W.cell? ⟨bb, j, none⟩ = some v := fun W bb k1 k2 k3 j v hj => by
      rw [hfy] at hj
      rcases Nat.lt_or_ge j (i * 5) with h | h
      · rw [List.append_assoc, List.getElem?_append_left (by omega), List.getElem?_take, if_pos h] at hj
        exact k1 j v h hj
      · rcases Nat.lt_or_ge j ((i + 1) * 5) with h' | h'
        · rw [List.append_assoc, List.getElem?_append_right (by omega), htl, List.getElem?_append_left (by rw [encW_len]; omega)] at hj
          have := k2 (j - i * 5) (by omega)
          rw [show i * 5 + (j - i * 5) = j by omega] at this
          rw [this, ← hj, List.getElem?_eq_getElem]
        · rw [List.getElem?_append_right (by rw [List.length_append, htl, encW_len]; omega), List.length_append, htl, encW_len] at hj
          obtain ⟨hl, he⟩ := List.getElem?_eq_some_iff.1 hj
          have := k3 (j - (i * 5 + 5)) hl
          rw [show (i + 1) * 5 + (j - (i * 5 + 5)) = j by omega] at this
          rw [this, he]
    have hlc : ([enc b] : List (List AV)).length = 1 := rfl
    rcases Nat.lt_or_ge cap (x.length + 1) with hroom | hroom
    · have hcon := ins_grow (V.ρ 0) x.length cap i vb vo cap2 (fl x) (encW b) V.w hi hle hroom (by omega) (fl_len x) (encW_len b) hcs hvs (fl_one x) (encW_one b)
      refine Calls.mono hcon fun e w' he => ?_
      obtain ⟨rfl, rfl⟩ := he
      have hGn : x.length + 1 ≤ grownCap V.w (x.length + 1) cap 27 := grownCap_ge V.w _ _ _
      obtain ⟨GG, hGG⟩ : ∃ GG, GG = grownCap V.w (x.length + 1) cap 27 := ⟨_, rfl⟩
      rw [← hGG] at hGn ⊢
      have hRs : (rowI (fl x) x.length i GG).size = GG * 5 := rowI_size _ _ _ _ (fl_len x) hi hGn
      have hRt : ∀ j v, j < i * 5 → (fl x)[j]? = some v → (rowI (fl x) x.length i GG)[j]? = some v := fun j v hj hv => by
        rw [rowI, Array.append_assoc, Array.getElem?_append_left (by rw [List.size_toArray]; omega), List.getElem?_toArray, List.getElem?_take, if_pos hj, hv]
      obtain ⟨ROW, hROW⟩ : ∃ ROW, ROW = rowI (fl x) x.length i GG := ⟨_, rfl⟩
      rw [← hROW] at hRs hRt ⊢
      obtain ⟨W0, hW0⟩ : ∃ W0, W0 = V.w.alloc (.cells ROW 27) := ⟨_, rfl⟩
      have hW0s : W0.heap.size = V.w.heap.size + 1 := by rw [hW0]; exact alloc_size _ _
      have hW0c : ∀ j, W0.cell? ⟨V.w.heap.size, j, none⟩ = ROW[j]? := fun j => by rw [hW0]; exact alloc_cell _ _ _ _
      have hW0o : ∀ k, k < V.w.heap.size → W0.heap[k]? = V.w.heap[k]? := fun k hk => by rw [hW0]; exact alloc_old _ _ _ hk
      have w1 : W0.os = V.w.os := by rw [hW0]; rfl
      have w2 : W0.tape = V.w.tape := by rw [hW0]; rfl
      have w3 : W0.output = V.w.output := by rw [hW0]; rfl
      have w4 : W0.drawn = V.w.drawn := by rw [hW0]; rfl
      rw [← hW0]
      clear hW0 hROW hGG hcon
      obtain ⟨a1, a2, a3, a4, a5, a6⟩ := setCells_same V.w.heap.size (encW b) (i * 5) W0.drew
      obtain ⟨b1, b2, b3, b4, b5, b6⟩ := setCells_same V.w.heap.size ((fl x).drop (i * 5)) ((i + 1) * 5) ((W0.drew.setCells V.w.heap.size (i * 5) (encW b)).drew)
      have hsome : ∀ j, j < (x.length + 1) * 5 → (W0.drew.cell? ⟨V.w.heap.size, j, none⟩).isSome = true := fun j hj => by
        have hj' : j < ROW.size := by omega
        rw [drew_cell, hW0c, Array.getElem?_eq_getElem hj']; rfl
      have hsome2 : ∀ j, j < (x.length + 1) * 5 → ((W0.drew.setCells V.w.heap.size (i * 5) (encW b)).cell? ⟨V.w.heap.size, j, none⟩).isSome = true := fun j hj =>
        isSome_setCells V.w.heap.size (encW b) (i * 5) W0.drew (fun k hk => hsome (i * 5 + k) (by rw [encW_len] at hk; omega)) j (hsome j hj)
      rw [← hy]
      refine ins_goes hH hG (.inr (Nat.le_refl _)) ?_ ?_ ?_ ?_ ?_ ?_ ?_ (by rw [hy]; exact hGn)
      · rw [b1]; rw [drew_os, a1, drew_os, w1]
      · rw [b2]; rw [drew_tape, a2, drew_tape, w2]
      · rw [b3]; rw [drew_output, a3, drew_output, w3]
      · rw [b5, drew_heap, a5, drew_heap]; omega
      · rw [b4, drew_drawn, a4, drew_drawn]; omega
      · intro k hk _
        rw [b6 k (by omega), drew_heap, a6 k (by omega), drew_heap]
        exact hW0o k hk
      · refine fin _ _ (fun j v hj hv => ?_) (fun j hj => ?_) fun j hj => ?_
        · rw [World.cell?_setCells_out _ _ _ _ _ (fun _ _ => .inl (by show j < (i + 1) * 5; omega))]
          rw [drew_cell, World.cell?_setCells_out _ _ _ _ _ (fun _ _ => .inl hj), drew_cell, hW0c]
          exact hRt j v hj hv
        · rw [World.cell?_setCells_out _ _ _ _ _ (fun _ _ => .inl (by show i * 5 + j < (i + 1) * 5; omega))]
          rw [drew_cell]
          exact World.cell?_setCells_in V.w.heap.size (encW b) (i * 5) W0.drew (fun k hk => hsome (i * 5 + k) (by rw [encW_len] at hk; omega)) j hj
        · exact World.cell?_setCells_in V.w.heap.size ((fl x).drop (i * 5)) ((i + 1) * 5) (W0.drew.setCells V.w.heap.size (i * 5) (encW b)).drew (fun k hk => by rw [drew_cell]; exact hsome2 ((i + 1) * 5 + k) (by rw [hdl] at hk; omega)) j hj
    · have hvc : V.w.cell? ⟨vb, vo, none⟩ = some (.string b.ky) := hvs 0 _ rfl
      obtain ⟨tA, kA, hsa, hkA⟩ : ∃ tA kA, V.w.shape? vb = some (tA, kA) ∧ kA ≠ 0 := by
        unfold World.cell? at hvc
        simp only at hvc
        split at hvc
        · rename_i c2 t2 f2 hq
          refine ⟨t2, c2.size, by simp [World.shape?, hq], ?_⟩
          have : c2[vo]? = some (Value.string b.ky) := by simpa using hvc
          have := (Array.getElem?_eq_some_iff.1 this).1
          omega
        · cases hvc
      have hcon := ins_shift (V.ρ 0) x.length cap i vb vo cap2 (fl x) (encW b) V.w hi hroom (by unfold maxLen at hmax; omega) hne (fl_len x) (encW_len b) hcs
        (fun j hj => by simp only [World.cell?, hheap]; show (c[j]?).isSome = true; rw [Array.getElem?_eq_getElem (by omega)]; rfl) (fun j => by simp [World.frozen?, hheap]) hvs (fl_one x) (encW_one b) tA t kA c.size hsa (by simp [World.shape?, hheap]) hkA (by omega)
      refine Calls.mono hcon fun e w' he => ?_
      obtain ⟨rfl, rfl⟩ := he
      obtain ⟨a1, a2, a3, a4, a5, a6⟩ := setCells_same (V.ρ 0) ((fl x).drop (i * 5)) ((i + 1) * 5) V.w.drew
      obtain ⟨b1, b2, b3, b4, b5, b6⟩ := setCells_same (V.ρ 0) (encW b) (i * 5) (V.w.drew.setCells (V.ρ 0) ((i + 1) * 5) ((fl x).drop (i * 5)))
      have hsome : ∀ j, j < (x.length + 1) * 5 → (V.w.drew.cell? ⟨V.ρ 0, j, none⟩).isSome = true := fun j hj => by
        show (V.w.cell? ⟨V.ρ 0, j, none⟩).isSome = true
        simp only [World.cell?, hheap]; show (c[j]?).isSome = true; rw [Array.getElem?_eq_getElem (by omega)]; rfl
      have hsome2 : ∀ j, j < (x.length + 1) * 5 → ((V.w.drew.setCells (V.ρ 0) ((i + 1) * 5) ((fl x).drop (i * 5))).cell? ⟨V.ρ 0, j, none⟩).isSome = true := fun j hj =>
        isSome_setCells (V.ρ 0) ((fl x).drop (i * 5)) ((i + 1) * 5) V.w.drew (fun k hk => hsome ((i + 1) * 5 + k) (by rw [hdl] at hk; omega)) j (hsome j hj)
      rw [← hy]
      refine ins_goes hH hG (.inl rfl) ?_ ?_ ?_ ?_ ?_ ?_ ?_ (by rw [hy]; exact hroom)
      · rw [b1, a1, drew_os]
      · rw [b2, a2, drew_tape]
      · rw [b3, a3, drew_output]
      · rw [b5, a5, drew_heap]; exact Nat.le_refl _
      · rw [b4, a4, drew_drawn]; omega
      · intro k hk hne
        rw [b6 k hne, a6 k hne, drew_heap]
      · refine fin _ _ (fun j v hj hv => ?_) (fun j hj => ?_) fun j hj => ?_
        · rw [World.cell?_setCells_out _ _ _ _ _ (fun _ _ => .inl hj), World.cell?_setCells_out _ _ _ _ _ (fun _ _ => .inl (by show j < (i + 1) * 5; omega))]
          exact hcs j v hv
        · exact World.cell?_setCells_in (V.ρ 0) (encW b) (i * 5) (V.w.drew.setCells (V.ρ 0) ((i + 1) * 5) ((fl x).drop (i * 5))) (fun k hk => hsome2 (i * 5 + k) (by rw [encW_len] at hk; omega)) j hj
        · rw [World.cell?_setCells_out _ _ _ _ _ (fun _ _ => .inr (by show i * 5 + (encW b).length ≤ (i + 1) * 5 + j; rw [encW_len]; omega))]
          exact World.cell?_setCells_in (V.ρ 0) ((fl x).drop (i * 5)) ((i + 1) * 5) V.w.drew (fun k hk => hsome ((i + 1) * 5 + k) (by rw [hdl] at hk; omega)) j hj
end Go.Bd

/- BINDS, 15: Put. -/
namespace Go.Bd
set_option maxRecDepth 100000
set_option linter.unusedSimpArgs false
set_option linter.unusedVariables false
open Go Go.Am Go.Proofs Go.Seat

theorem app_room (x w : List BE) (b y : BE) : List.take (x.length + 1) (List.drop 0 (List.take x.length (encs (x ++ y :: w)) ++ [str b.ky, int b.dv, int b.sq, int b.tm, str b.vl] :: List.drop (x.length + 1) (encs (x ++ y :: w)))) = encs (x ++ [b]) := by
  have h : ∀ L : List (List AV), List.take (x.length + 1) (encs x ++ enc b :: L) = encs x ++ [enc b] := fun L => by
    rw [show encs x ++ enc b :: L = (encs x ++ [enc b]) ++ L by simp]
    exact List.take_left' (by simp [encs_length])
  rw [List.drop_zero, encs_take, List.take_left]
  exact (h _).trans (by rw [encs_one, encs_append])

theorem ins_e0 (x : List BE) (b : BE) (i : Int) (hi : i = (x.length : Int)) (hx : x.length ≤ 1000000000) (h : True) : CallC P G 31 [AV.own 0 0 0 (List.length x), int i, AV.sl 5 true [enc b]] [AObj.arr 0 5 false (encs x)] (AOut.ret (bes (x ++ [b]))) [AObj.gone] := by
  have hz0 : 0 = 0 := (rfl)
  have _ := h
  exact CallC.heapSub ((show CallC P G 31 [AV.own 0 0 0 (List.length x), int i, AV.sl 5 true [enc b]] [AObj.arr 0 5 false (encs x)] (AOut.ret (AV.sl 5 false (encs (x ++ [BE.mk (BE.ky b) (BE.dv b) (BE.sq b) (BE.tm b) (BE.vl b)])))) [AObj.arr 1 5 true (encs (x ++ [BE.mk (BE.ky b) (BE.dv b) (BE.sq b) (BE.tm b) (BE.vl b)]))] from callC_of [kp hz0, kp (show (0 : Int) ≤ i ∧ i ≤ (↑(List.length x) : Int) ∧ (↑(List.length x) : Int) ≤ (↑(List.length x) : Int) from (by omega)), kf (Eq.refl false), kp hz0, kt (show (i == (↑(List.length x) : Int)) = true from (decide_eq_true (by omega))), ko (Orc.hp (some 25) (AV.own 0 1 0 (List.length (x ++ [BE.mk (BE.ky b) (BE.dv b) (BE.sq b) (BE.tm b) (BE.vl b)]))) [AObj.arr 1 5 false (encs (x ++ [BE.mk (BE.ky b) (BE.dv b) (BE.sq b) (BE.tm b) (BE.vl b)]))]), ko (Orc.frz (encs (x ++ [BE.mk (BE.ky b) (BE.dv b) (BE.sq b) (BE.tm b) (BE.vl b)]))), kp (show Am.Sub (AV.own 0 1 0 (List.length x + 1)) (AV.own 0 1 0 (List.length (x ++ [BE.mk (BE.ky b) (BE.dv b) (BE.sq b) (BE.tm b) (BE.vl b)]))) from (Sub.of_eq (by simp [Go.Bd.encs_ids, Go.Bd.encs_pure, Go.Bd.encs_all, Go.Bd.encs_length]))), kp (show Am.HSub [AObj.arr 1 5 false (encs x ++ [[str (BE.ky b), int (BE.dv b), int (BE.sq b), int (BE.tm b), str (BE.vl b)]])] [AObj.arr 1 5 false (encs (x ++ [BE.mk (BE.ky b) (BE.dv b) (BE.sq b) (BE.tm b) (BE.vl b)]))] from (⟨.inl (by simp only [Go.Bd.encs_append, Go.Bd.encs_mk]), trivial⟩)), kp hz0, kp (show List.length x = List.length (encs x) from ((Go.Bd.encs_length _).symm)), kp (show (List.length x + 1) * 56 ≤ 140737488355328 from (by omega)), kp (show 1 = 1 from (rfl)), kp (show List.take (List.length (x ++ [BE.mk (BE.ky b) (BE.dv b) (BE.sq b) (BE.tm b) (BE.vl b)])) (List.drop 0 (encs (x ++ [BE.mk (BE.ky b) (BE.dv b) (BE.sq b) (BE.tm b) (BE.vl b)]))) = encs (x ++ [BE.mk (BE.ky b) (BE.dv b) (BE.sq b) (BE.tm b) (BE.vl b)]) from (Go.Bd.encs_all _)), kp (show List.length (encs (x ++ [BE.mk (BE.ky b) (BE.dv b) (BE.sq b) (BE.tm b) (BE.vl b)])) = List.length (x ++ [BE.mk (BE.ky b) (BE.dv b) (BE.sq b) (BE.tm b) (BE.vl b)]) from (Go.Bd.encs_length _)), kp (show ∀ (c : List AV), c ∈ encs (x ++ [BE.mk (BE.ky b) (BE.dv b) (BE.sq b) (BE.tm b) (BE.vl b)]) → List.all c AV.pureB = true from (Go.Bd.encs_pure _))] (by kernel_rfl))) (by exact ⟨.inr trivial, trivial⟩)

theorem ins_e1 (x w : List BE) (b y : BE) (i : Int) (hi : i = (x.length : Int)) (hx : x.length ≤ 1000000000) (h : ((List.length x + 1 ≤ List.length (encs (x ++ y :: w))) ∧ ((List.take (List.length x + 1) (List.drop 0 (List.take (List.length x) (encs (x ++ y :: w)) ++ [str (BE.ky b), int (BE.dv b), int (BE.sq b), int (BE.tm b), str (BE.vl b)] :: List.drop (List.length x + 1) (encs (x ++ y :: w)))) = encs (x ++ [b])) ∧ ((List.length (encs (x ++ [b])) = List.length x + 1) ∧ True)))) : CallC P G 31 [AV.own 0 0 0 (List.length x), int i, AV.sl 5 true [enc b]] [AObj.arr 0 5 false (encs (x ++ y :: w))] (AOut.ret (bes (x ++ [b]))) [AObj.gone] := by
  have hz0 : 0 = 0 := (rfl)
  obtain ⟨o2, h⟩ := h
  obtain ⟨o3, h⟩ := h
  obtain ⟨o4, h⟩ := h
  have _ := h
  exact CallC.heapSub ((show CallC P G 31 [AV.own 0 0 0 (List.length x), int i, AV.sl 5 true [enc b]] [AObj.arr 0 5 false (encs (x ++ y :: w))] (AOut.ret (AV.sl 5 false (encs (x ++ [b])))) [AObj.arr 1 5 true (List.take (List.length x) (encs (x ++ y :: w)) ++ [str (BE.ky b), int (BE.dv b), int (BE.sq b), int (BE.tm b), str (BE.vl b)] :: List.drop (List.length x + 1) (encs (x ++ y :: w)))] from callC_of [kp hz0, kp (show (0 : Int) ≤ i ∧ i ≤ (↑(List.length x) : Int) ∧ (↑(List.length x) : Int) ≤ (↑(List.length x) : Int) from (by omega)), kf (Eq.refl false), kp hz0, kt (show (i == (↑(List.length x) : Int)) = true from (decide_eq_true (by omega))), ko (Orc.own), ko (Orc.frz (encs (x ++ [b]))), kp hz0, kp o2, kp (show 1 = 1 from (rfl)), kp o3, kp o4, kp (show ∀ (c : List AV), c ∈ encs (x ++ [b]) → List.all c AV.pureB = true from (Go.Bd.encs_pure _))] (by kernel_rfl))) (by exact ⟨.inr trivial, trivial⟩)

theorem ins_z (x : List BE) (b : BE) (i : Int) (hi : i = (x.length : Int)) (hx : x.length ≤ 1000000000) (h : True) : CallC P G 31 [AV.sl 5 true (encs x), int i, AV.sl 5 true [enc b]] [] (AOut.ret (bes (x ++ [b]))) [] := by
  have _ := h
  exact callC_of [kv 12 (show Am.Sub (AV.sl 5 true (List.drop (Int.toNat i) (List.take (Int.toNat (↑(List.length (encs x)) : Int)) (encs x)))) (AV.sl 5 true (List.drop (Int.toNat i) (List.take (Int.toNat (↑(List.length x) : Int)) (encs x)))) from (Sub.of_eq (by simp only [Go.Bd.encs_length]))), kp (show (0 : Int) ≤ i ∧ i ≤ (↑(List.length (encs x)) : Int) ∧ (↑(List.length (encs x)) : Int) ≤ (↑(List.length (encs x)) : Int) from (by rw [Go.Bd.encs_length]; omega)), kf (Eq.refl false), kv 19 (show Am.Sub (int (↑(List.length (encs x)) : Int)) (int (↑(List.length x) : Int)) from (Sub.of_eq (by simp only [Go.Bd.encs_length]))), kt (show (i == (↑(List.length x) : Int)) = true from (decide_eq_true (by omega))), ko (Orc.hp (some 25) (AV.own 0 0 0 (List.length (x ++ [BE.mk (BE.ky b) (BE.dv b) (BE.sq b) (BE.tm b) (BE.vl b)]))) [AObj.arr 0 5 false (encs (x ++ [BE.mk (BE.ky b) (BE.dv b) (BE.sq b) (BE.tm b) (BE.vl b)]))]), ko (Orc.frz (encs (x ++ [BE.mk (BE.ky b) (BE.dv b) (BE.sq b) (BE.tm b) (BE.vl b)]))), kp (show Am.Sub (AV.own 0 0 0 (List.length (encs x) + 1)) (AV.own 0 0 0 (List.length (x ++ [BE.mk (BE.ky b) (BE.dv b) (BE.sq b) (BE.tm b) (BE.vl b)]))) from (Sub.of_eq (by simp [Go.Bd.encs_ids, Go.Bd.encs_pure, Go.Bd.encs_length, Go.Bd.encs_all]))), kp (show Am.HSub [AObj.arr 0 5 false (encs x ++ [[str (BE.ky b), int (BE.dv b), int (BE.sq b), int (BE.tm b), str (BE.vl b)]])] [AObj.arr 0 5 false (encs (x ++ [BE.mk (BE.ky b) (BE.dv b) (BE.sq b) (BE.tm b) (BE.vl b)]))] from (⟨.inl (by simp only [Go.Bd.encs_append, Go.Bd.encs_mk]), trivial⟩)), kp (show [[str (BE.ky b), int (BE.dv b), int (BE.sq b), int (BE.tm b), str (BE.vl b)]] ≠ [] from (by simp)), kp (show (List.length (encs x) + 1) * 56 ≤ 140737488355328 from (by simp only [List.length_append, List.length_cons, List.length_nil, List.length_map, Go.Bd.encs_ids, Go.Bd.encs_pure, Go.Bd.encs_length, Go.Bd.encs_all] <;> omega)), kp (show 0 = 0 from (rfl)), kp (show List.take (List.length (x ++ [BE.mk (BE.ky b) (BE.dv b) (BE.sq b) (BE.tm b) (BE.vl b)])) (List.drop 0 (encs (x ++ [BE.mk (BE.ky b) (BE.dv b) (BE.sq b) (BE.tm b) (BE.vl b)]))) = encs (x ++ [BE.mk (BE.ky b) (BE.dv b) (BE.sq b) (BE.tm b) (BE.vl b)]) from (Go.Bd.encs_all _)), kp (show List.length (encs (x ++ [BE.mk (BE.ky b) (BE.dv b) (BE.sq b) (BE.tm b) (BE.vl b)])) = List.length (x ++ [BE.mk (BE.ky b) (BE.dv b) (BE.sq b) (BE.tm b) (BE.vl b)]) from (Go.Bd.encs_length _)), kp (show ∀ (c : List AV), c ∈ encs (x ++ [BE.mk (BE.ky b) (BE.dv b) (BE.sq b) (BE.tm b) (BE.vl b)]) → List.all c AV.pureB = true from (Go.Bd.encs_pure _))] (by kernel_rfl)

theorem ins_c (x w : List BE) (b : BE) (i : Nat) (hi : i ≤ x.length) (hx : x.length ≤ 1000000000) : CallC P G 31 [.own 0 0 0 x.length, int i, .sl 5 true [enc b]] [.arr 0 5 false (encs (x ++ w))] (.ret (bes (x.take i ++ [b] ++ x.drop i))) [.gone] := by
  rcases Nat.lt_or_ge i x.length with h | h
  · exact ins_in x w b i h hx
  · have e : i = x.length := by omega
    subst e
    rw [List.take_length, List.drop_length, List.append_nil]
    cases w with
    | nil => rw [List.append_nil]; exact ins_e0 x b _ rfl hx trivial
    | cons y w => exact ins_e1 x w b y _ rfl hx ⟨by rw [encs_length]; simp, app_room x w b y, by rw [encs_length]; simp, trivial⟩

theorem bz_l (x : List BE) (b : BE) (hx : x.length = 0) (h : True) : RunL P G none 0 (loopAt P 29 0) (St.mk (slots 49 [(0, AV.sl 5 true (encs x)), (2, fnF 30), (4, AV.ptr 0 0), (8, int (↑(List.length x) : Int)), (9, int 0), (10, int (↑(List.length x) : Int))]) [AObj.box (enc b)] []) (AEx.exit 0) (St.mk (slots 49 [(0, AV.sl 5 true (encs x)), (2, fnF 30), (4, AV.ptr 0 0), (8, int (↑(List.length x) : Int)), (9, int 0)]) [AObj.box (enc b)] []) := by
  have _ := h
  exact loop_exit [kf (show decide ((0 : Int) < (↑(List.length x) : Int)) = false from (decide_eq_false (by omega)))] (others 49 [0, 2, 4, 8, 9]) 1 (by kernel_rfl)

theorem bz_f (x : List BE) (b : BE) (hx : x.length = 0) (hL : RunL P G none 0 (loopAt P 29 0) { env := slots 49 [(0, .sl 5 true (encs x)), (2, fnF 30), (4, .ptr 0 0), (8, int x.length), (9, int 0), (10, int x.length)], H := [.box (enc b)] } (.exit 0) { env := slots 49 [(0, .sl 5 true (encs x)), (2, fnF 30), (4, .ptr 0 0), (8, int x.length), (9, int 0)], H := [.box (enc b)] }) (h : True) : CallC P G 29 [AV.sl 5 true (encs x), bel b, fnF 30] [] (AOut.ret (AV.tup [int 0, Am.bool false])) [] := by
  have _ := h
  exact callC_of [kv 13 (show Am.Sub (int (↑(List.length (encs x)) : Int)) (int (↑(List.length x) : Int)) from (Sub.of_eq (by simp only [Go.Bd.encs_length]))), kl [1, 3, 5, 6, 7, 11, 12, 13, 14, 15, 16, 17, 18, 19, 20, 21, 22, 23, 24, 25, 26, 27, 28, 29, 30, 31, 32, 33, 34, 35, 36, 37, 38, 39, 40, 41, 42, 43, 44, 45, 46, 47, 48] 1 (@hL ), kf (show decide ((0 : Int) < (↑(List.length x) : Int)) = false from (decide_eq_false (by omega)))] (by kernel_rfl)

theorem put_w (v w t : List BE) (c : List Vec.D) (b : BE) (p : Nat) (f : Bool) (hD : CallC P G 17 [bes v, Vec.vec c, str b.ky] [] (.ret (.tup [.own 2 0 0 t.length, int 0])) [.gone, .gone, .arr 0 5 false (encs (t ++ w))]) (hV : CallC P G 26 [bel b] [] (.ret (bool true)) []) (hC : CallC P G 27 [Vec.vec c, dta b.dv b.sq] [] (.ret (bool false)) []) (hF : CallC P G 28 [bes v, smF 0] [.box (enc b)] (.ret (bool false)) [.box (enc b)]) (hB : CallC P G 29 [.own 0 0 0 t.length, bel b, fnF 30] [.arr 0 5 false (encs (t ++ w))] (.ret (.tup [int p, bool f])) [.arr 0 5 false (encs (t ++ w))]) (r : List BE) (hI : CallC P G 31 [.own 0 0 0 t.length, int p, .sl 5 true [enc b]] [.arr 0 5 false (encs (t ++ w))] (.ret (bes r)) [.gone]) (h : True) : CallC P G 12 [bes v, Vec.vec c, bel b] [] (AOut.ret (AV.tup [bes r, int 0])) [] := by
  have hz1 : ∀ (x : List AV), x ∈ encs (t ++ w) → AV.idsInL [] x = true := (Go.Bd.encs_ids _)
  have _ := h
  exact callC_of [kc [] (@hD ), kp hz1, kf (Eq.refl false), kc [] (@hV ), kf (Eq.refl false), kc [] (@hC ), kf (Eq.refl false), kc [0] (@hF ), kf (Eq.refl false), kc [3] (@hB ), kp hz1, kp hz1, kc [3] (@hI ), kp hz1] (by kernel_rfl)

theorem put_z (v x : List BE) (c : List Vec.D) (b : BE) (hD : CallC P G 17 [bes v, Vec.vec c, str b.ky] [] (.ret (.tup [.sl 5 true (encs x), int 0])) []) (hV : CallC P G 26 [bel b] [] (.ret (bool true)) []) (hC : CallC P G 27 [Vec.vec c, dta b.dv b.sq] [] (.ret (bool false)) []) (hF : CallC P G 28 [bes v, smF 0] [.box (enc b)] (.ret (bool false)) [.box (enc b)]) (hB : CallC P G 29 [.sl 5 true (encs x), bel b, fnF 30] [] (.ret (.tup [int 0, bool false])) []) (r : List BE) (hI : CallC P G 31 [.sl 5 true (encs x), int 0, .sl 5 true [enc b]] [] (.ret (bes r)) []) (h : True) : CallC P G 12 [bes v, Vec.vec c, bel b] [] (AOut.ret (AV.tup [bes r, int 0])) [] := by
  have _ := h
  exact callC_of [kc [] (@hD ), kf (Eq.refl false), kc [] (@hV ), kf (Eq.refl false), kc [] (@hC ), kf (Eq.refl false), kc [0] (@hF ), kf (Eq.refl false), kc [] (@hB ), kc [] (@hI )] (by kernel_rfl)

theorem put_a (v : List BE) (c : List Vec.D) (b : BE) (e : Int) (hD : CallC P G 17 [bes v, Vec.vec c, str b.ky] [] (.ret (.tup [bes [], int e])) []) (he : e ≠ 0) (h : True) : CallC P G 12 [bes v, Vec.vec c, bel b] [] (AOut.ret (AV.tup [bes [], int e])) [] := by
  have _ := h
  exact CallC.out ((show CallC P G 12 [bes v, Vec.vec c, bel b] [] (AOut.ret (AV.tup [nilS, int e])) [] from callC_of [kc [] (@hD ), kt (show (e != 0) = true from (congrArg Bool.not (decide_eq_false (by omega))))] (by kernel_rfl))) (Sub.tups ⟨Sub.nil _, Sub.refl _, trivial⟩)

theorem put_v (v t : List BE) (c : List Vec.D) (b : BE) (hD : CallC P G 17 [bes v, Vec.vec c, str b.ky] [] (.ret (.tup [bes t, int 0])) []) (hV : CallC P G 26 [bel b] [] (.ret (bool false)) []) (h : True) : CallC P G 12 [bes v, Vec.vec c, bel b] [] (AOut.ret (AV.tup [bes [], int 140])) [] := by
  have _ := h
  exact CallC.out ((show CallC P G 12 [bes v, Vec.vec c, bel b] [] (AOut.ret (AV.tup [nilS, int 140])) [] from callC_of [kc [] (@hD ), kf (Eq.refl false), kc [] (@hV ), kt (Eq.refl true), kt (Eq.refl true), kt (Eq.refl true)] (by kernel_rfl))) (Sub.tups ⟨Sub.nil _, Sub.refl _, trivial⟩)

theorem put_c (v t : List BE) (c : List Vec.D) (b : BE) (hD : CallC P G 17 [bes v, Vec.vec c, str b.ky] [] (.ret (.tup [bes t, int 0])) []) (hV : CallC P G 26 [bel b] [] (.ret (bool true)) []) (hC : CallC P G 27 [Vec.vec c, dta b.dv b.sq] [] (.ret (bool true)) []) (h : True) : CallC P G 12 [bes v, Vec.vec c, bel b] [] (AOut.ret (AV.tup [bes [], int 140])) [] := by
  have _ := h
  exact CallC.out ((show CallC P G 12 [bes v, Vec.vec c, bel b] [] (AOut.ret (AV.tup [nilS, int 140])) [] from callC_of [kc [] (@hD ), kf (Eq.refl false), kc [] (@hV ), kf (Eq.refl false), kc [] (@hC ), kt (Eq.refl true), kt (Eq.refl true)] (by kernel_rfl))) (Sub.tups ⟨Sub.nil _, Sub.refl _, trivial⟩)

theorem put_m (v t : List BE) (c : List Vec.D) (b : BE) (hD : CallC P G 17 [bes v, Vec.vec c, str b.ky] [] (.ret (.tup [bes t, int 0])) []) (hV : CallC P G 26 [bel b] [] (.ret (bool true)) []) (hC : CallC P G 27 [Vec.vec c, dta b.dv b.sq] [] (.ret (bool false)) []) (hF : CallC P G 28 [bes v, smF 0] [.box (enc b)] (.ret (bool true)) [.box (enc b)]) (h : True) : CallC P G 12 [bes v, Vec.vec c, bel b] [] (AOut.ret (AV.tup [bes [], int 140])) [] := by
  have _ := h
  exact CallC.out ((show CallC P G 12 [bes v, Vec.vec c, bel b] [] (AOut.ret (AV.tup [nilS, int 140])) [] from callC_of [kc [] (@hD ), kf (Eq.refl false), kc [] (@hV ), kf (Eq.refl false), kc [] (@hC ), kf (Eq.refl false), kc [0] (@hF ), kt (Eq.refl true)] (by kernel_rfl))) (Sub.tups ⟨Sub.nil _, Sub.refl _, trivial⟩)

theorem insB_plc (b : BE) (x : List BE) : insB b x = x.take (plcB b x) ++ [b] ++ x.drop (plcB b x) := by
  have h1 : x.take (plcB b x) = x.takeWhile fun a => lessB a b := by
    conv => lhs; rhs; rw [← List.takeWhile_append_dropWhile (p := fun a => lessB a b) (l := x)]
    rw [plcB, List.take_left]
  have h2 : x.drop (plcB b x) = x.dropWhile fun a => lessB a b := by
    conv => lhs; rhs; rw [← List.takeWhile_append_dropWhile (p := fun a => lessB a b) (l := x)]
    rw [plcB, List.drop_left]
  rw [h1, h2]; simp [insB]

theorem put_c' (v : List BE) (c : List Vec.D) (b : BE) (hv : v.length ≤ 10000000) (hc : c.length ≤ 10000000) : CallC P G 12 [bes v, Vec.vec c, bel b] [] (.ret (.tup [bes (putR v c b).1, int (putR v c b).2])) [] := by
  have hD := drop_c v c b.ky hv hc
  have hV := valid_c b
  have hC := Vec.covers_c c b.dv b.sq (by omega)
  have hF := contains_c v b (by omega)
  unfold putR
  unfold dropR at hD
  by_cases e0 : chkE v = 0
  · rw [if_pos e0] at hD ⊢
    by_cases e1 : Vec.checkE c = 0
    · rw [if_pos e1] at hD ⊢
      cases hVb : validB b with
      | false =>
        rw [hVb] at hV
        rw [if_neg (by simp [mayB, hVb])]
        exact put_v v _ c b hD hV trivial
      | true =>
        rw [hVb] at hV
        cases hO : Vec.coversB c b.dot with
        | true =>
          rw [if_neg (by simp [mayB, hO])]
          exact put_c v _ c b hD hV (by rw [← hO]; exact hC) trivial
        | false =>
          have hC : CallC P G 27 [Vec.vec c, dta b.dv b.sq] [] (.ret (bool false)) [] := by rw [← hO]; exact hC
          cases hA : v.any fun a => decide (a.dot = b.dot) with
          | true =>
            rw [hA] at hF
            rw [if_neg (by simp only [mayB, hA]; simp)]
            exact put_m v _ c b hD hV hC hF trivial
          | false =>
            rw [hA] at hF
            rw [if_pos (by simp only [mayB, hA, hVb, hO]; rfl)]
            by_cases hne : v = []
            · subst hne
              exact put_z [] [] c b (drop_e c b.ky hc e1) hV hC hF (bz_f [] b rfl (bz_l [] b rfl trivial) trivial) _ (ins_z [] b 0 rfl (by simp) trivial) trivial
            · obtain ⟨w, hD'⟩ := drop_own v c b.ky hv hne hc e0 e1
              have hM : Map v := (ok_iff v).1 (by unfold chkE at e0; split at e0 <;> first | assumption | cases e0)
              have hl : (rest v c b.ky).length ≤ v.length := List.length_filter_le _ _
              obtain ⟨f, hB⟩ := bin_c (rest v c b.ky) w b (by omega) (rest_map hM c b.ky).sorted
              rw [insB_plc]
              exact put_w v w (rest v c b.ky) c b _ f hD' hV hC hF hB _ (ins_c (rest v c b.ky) w b _ (plcB_le _ _) (by omega)) trivial
    · rw [if_neg e1] at hD ⊢
      exact put_a v c b _ hD e1 trivial
  · rw [if_neg e0] at hD ⊢
    exact put_a v c b _ hD e0 trivial

end Go.Bd

/- BINDS, 9: the reference's Values and Keys. -/
namespace Go.Bd
set_option maxRecDepth 100000
set_option linter.unusedSimpArgs false
set_option linter.unusedVariables false
open Go Go.Am Go.Proofs Go.Seat

def rv (v : List BE) (k : ByteArray) (i : Nat) (l : List BE) : St := { env := slots 56 [(0, bes v), (1, str k), (5, bes l), (6, int i)], H := [] }
def rvI (v : List BE) (k : ByteArray) (i n : Nat) (l : List BE) : St := { env := slots 56 [(0, bes v), (1, str k), (5, bes l), (6, int i), (7, int n)], H := [] }
def rvX (l : List BE) : St := { env := slots 56 [(5, bes l)], H := [] }

theorem rvi_w (v : List BE) (k : ByteArray) (i n m : Nat) (l : List BE) (x : BE) (hx : v[i]? = some x) (hi : i < v.length) (hv : v.length ≤ 1000000000) (hl : l.length ≤ 1000000000) (ex : AEx) (h : ((((↑n : Int) < (↑(List.length l) : Int)) → (∃ x2 : BE, (l[n]? = some x2) ∧ ((((moreB x x2) = true) → (AEx.exit 2 = ex) ∧ (((↑n : Int) : Int) = ((↑m : Int)))) ∧ (((moreB x x2) = false) → RunL P G none 0 (loopAt P 22 1) (St.mk (slots 56 [(0, AV.sl 5 false (encs v)), (1, str k), (5, AV.sl 5 false (encs l)), (6, int (↑i : Int)), (7, int (↑(n + 1) : Int))]) [] []) ex (rvI v k i m l))))) ∧ ((¬(↑n : Int) < (↑(List.length l) : Int)) → (AEx.exit 2 = ex) ∧ (((↑n : Int) : Int) = ((↑m : Int)))))) : RunL P G none 0 (loopAt P 22 1) (rvI v k i n l) ex (rvI v k i m l) := by
  have hz0 : Am.Sub (int (↑(List.length (encs l)) : Int)) (int (↑(List.length l) : Int)) := (Sub.of_eq (by simp only [Go.Bd.encs_length]))
  have hz1 : (0 : Int) ≤ (↑i : Int) ∧ (encs v)[Int.toNat (↑i : Int)]? = some (enc x) := (el_nat hx)
  by_cases c1 : ((↑n : Int) < (↑(List.length l) : Int))
  · have h := h.1 c1
    obtain ⟨x2, o3, h⟩ := h
    have hz2 : (0 : Int) ≤ (↑n : Int) ∧ (encs l)[Int.toNat (↑n : Int)]? = some (enc x2) := (el_nat o3)
    have hz3 := (@Go.Bd.more_c (x) (x2))
    rcases Bool.eq_false_or_eq_true ((moreB x x2)) with c4 | c4
    · have h := h.1 c4
      obtain ⟨eX, e1⟩ := h
      exact RunL.to ((show RunL P G none 0 (loopAt P 22 1) (rvI v k i n l) (AEx.exit 2) (St.mk (slots 56 [(0, AV.sl 5 false (encs v)), (1, str k), (5, AV.sl 5 false (encs l)), (6, int (↑i : Int)), (7, int (↑n : Int))]) [] []) from loop_exit [kv 24 hz0, kt (decide_eq_true c1), ko (Orc.elem (enc x)), ko (Orc.elem (enc x2)), kp hz1, kp hz2, kc [] hz3, kf (show (!moreB x x2) = false from (congrArg Bool.not (c4)))] (others 56 [0, 1, 5, 6, 7]) 0 (by kernel_rfl))) eX (SubS.slots ⟨rfl, Sub.refl _, rfl, Sub.refl _, rfl, Sub.refl _, rfl, Sub.refl _, rfl, (Sub.int_eq e1), trivial⟩)
    · have h := h.2 c4
      exact loop_next [kv 24 hz0, kt (decide_eq_true c1), ko (Orc.elem (enc x)), ko (Orc.elem (enc x2)), kp hz1, kp hz2, kc [] hz3, kt (show (!moreB x x2) = true from (congrArg Bool.not (c4))), kv 39 (show Am.Sub (int (IntKind.wrap IntKind.i64 ((↑n : Int) + 1))) (int (↑(n + 1) : Int)) from (Sub.of_wrap (by omega) (by omega) (by omega)))] (others 56 [0, 1, 5, 6, 7]) 0 h (by kernel_rfl)
  · have h := h.2 c1
    obtain ⟨eX, e1⟩ := h
    exact RunL.to ((show RunL P G none 0 (loopAt P 22 1) (rvI v k i n l) (AEx.exit 2) (St.mk (slots 56 [(0, AV.sl 5 false (encs v)), (1, str k), (5, AV.sl 5 false (encs l)), (6, int (↑i : Int)), (7, int (↑n : Int))]) [] []) from loop_exit [kv 24 hz0, kf (decide_eq_false c1), kf (Eq.refl false)] (others 56 [0, 1, 5, 6, 7]) 0 (by kernel_rfl))) eX (SubS.slots ⟨rfl, Sub.refl _, rfl, Sub.refl _, rfl, Sub.refl _, rfl, Sub.refl _, rfl, (Sub.int_eq e1), trivial⟩)

theorem rv_s (v : List BE) (k : ByteArray) (i : Nat) (l : List BE) (x : BE) (hv : v.length ≤ 1000000000) (hi : (i : Int) < (v.length : Int)) (hx : v[i]? = some x) (hq : (ByteArray.toList x.ky == ByteArray.toList k) = false) (ex : AEx) (s : St) (h : RunL P G none 0 (loopAt P 22 0) (St.mk (slots 56 [(0, AV.sl 5 false (encs v)), (1, str k), (5, AV.sl 5 false (encs l)), (6, int (↑(i + 1) : Int))]) [] []) ex s) : RunL P G none 0 (loopAt P 22 0) (rv v k i l) ex s := by
  exact loop_next [kv 11 (show Am.Sub (int (↑(List.length (encs v)) : Int)) (int (↑(List.length v) : Int)) from (Sub.of_eq (by simp only [Go.Bd.encs_length]))), kt (show decide ((↑i : Int) < (↑(List.length v) : Int)) = true from (decide_eq_true (by omega))), ko (Orc.elem (enc x)), kp (show (0 : Int) ≤ (↑i : Int) ∧ (encs v)[Int.toNat (↑i : Int)]? = some (enc x) from (el_nat hx)), kt (show (!ByteArray.toList (BE.ky x) == ByteArray.toList k) = true from (congrArg Bool.not (hq))), kv 14 (show Am.Sub (int (IntKind.wrap IntKind.i64 ((↑i : Int) + 1))) (int (↑(i + 1) : Int)) from (Sub.of_wrap (by omega) (by omega) (by omega)))] (others 56 [0, 1, 5, 6]) 0 h (by kernel_rfl)

theorem rv_e (v : List BE) (k : ByteArray) (i : Nat) (l : List BE) (hi : ¬ (i : Int) < (v.length : Int)) (h : True) : RunL P G none 0 (loopAt P 22 0) (rv v k i l) (AEx.exit 0) (rvX l) := by
  have _ := h
  exact loop_exit [kv 11 (show Am.Sub (int (↑(List.length (encs v)) : Int)) (int (↑(List.length v) : Int)) from (Sub.of_eq (by simp only [Go.Bd.encs_length]))), kf (show decide ((↑i : Int) < (↑(List.length v) : Int)) = false from (decide_eq_false (by omega)))] (others 56 [5]) 0 (by kernel_rfl)

theorem rv_n (v : List BE) (k : ByteArray) (i n : Nat) (l : List BE) (x : BE) (hv : v.length ≤ 1000000000) (hi : (i : Int) < (v.length : Int)) (hx : v[i]? = some x) (hq : (ByteArray.toList x.ky == ByteArray.toList k) = true) (hl : l.length ≤ 1000000000) (hn : n ≤ l.length) (hM : RunL P G none 0 (loopAt P 22 1) (rvI v k i 0 l) (.exit 2) (rvI v k i n l)) (ex : AEx) (s : St) (h : (((encs (List.take n l) = []) → (((1 + List.length (encs (List.drop n l))) * 56 ≤ 140737488355328) ∧ RunL P G none 0 (loopAt P 22 0) (St.mk (slots 56 [(0, AV.sl 5 false (encs v)), (1, str k), (5, AV.own 0 1 0 (1 + List.length (List.drop n l))), (6, int (↑(i + 1) : Int))]) [AObj.arr 1 5 false ([str (BE.ky x), int (BE.dv x), int (BE.sq x), int (BE.tm x), str (BE.vl x)] :: encs (List.drop n l))] []) ex s)) ∧ ((¬encs (List.take n l) = []) → (((0 + List.length (encs (List.take n l))) * 56 ≤ 140737488355328) ∧ (((List.length (List.take n l) + 1) * 56 ≤ 140737488355328) ∧ (((List.length (List.take n l) + 1 + List.length (encs (List.drop n l))) * 56 ≤ 140737488355328) ∧ RunL P G none 0 (loopAt P 22 0) (St.mk (slots 56 [(0, AV.sl 5 false (encs v)), (1, str k), (5, AV.own 0 2 0 (List.length (List.take n l) + 1 + List.length (List.drop n l))), (6, int (↑(i + 1) : Int))]) [AObj.arr 2 5 false (encs (List.take n l) ++ [[str (BE.ky x), int (BE.dv x), int (BE.sq x), int (BE.tm x), str (BE.vl x)]] ++ encs (List.drop n l))] []) ex s)))))) : RunL P G none 0 (loopAt P 22 0) (rv v k i l) ex s := by
  have hz0 : Am.Sub (int (↑(List.length (encs v)) : Int)) (int (↑(List.length v) : Int)) := (Sub.of_eq (by simp only [Go.Bd.encs_length, Int.toNat_natCast]))
  have hz1 : decide ((↑i : Int) < (↑(List.length v) : Int)) = true := (decide_eq_true (by omega))
  have hz2 : (0 : Int) ≤ (↑i : Int) ∧ (encs v)[Int.toNat (↑i : Int)]? = some (enc x) := (el_nat hx)
  have hz3 : (!ByteArray.toList (BE.ky x) == ByteArray.toList k) = false := (congrArg Bool.not (hq))
  have hz4 := (@hM )
  have hz5 : Am.Sub (AV.sl 5 false (List.drop 0 (List.take (Int.toNat (↑n : Int)) (encs l)))) (AV.sl 5 false (encs (List.take n l))) := (Sub.of_eq (by simp only [Go.Bd.encs_take, Int.toNat_natCast, List.drop_zero]))
  have hz6 : (0 : Int) ≤ (0 : Int) ∧ (0 : Int) ≤ (↑n : Int) ∧ (↑n : Int) ≤ (↑(List.length (encs l)) : Int) := (by rw [Go.Bd.encs_length]; omega)
  have hz12 : 0 = 0 := (rfl)
  have hz13 : 1 = 1 := (rfl)
  by_cases c2 : (encs (List.take n l) = [])
  · have h := h.1 c2
    obtain ⟨o3, h⟩ := h
    exact loop_next [kv 11 hz0, kt hz1, ko (Orc.elem (enc x)), kp hz2, kf hz3, kl [9, 10, 11, 12, 15, 16, 17, 18, 19, 20, 21] 0 hz4, kv 43 hz5, ko (Orc.emp), ko (Orc.elem (enc x)), kp hz6, kp c2, kp hz2, kp (show [[str (BE.ky x), int (BE.dv x), int (BE.sq x), int (BE.tm x), str (BE.vl x)]] ≠ [] from (by simp)), kp (show 56 ≤ 140737488355328 from (by omega)), kv 53 (show Am.Sub (AV.sl 5 false (List.drop (Int.toNat (↑n : Int)) (List.take (Int.toNat (↑(List.length (encs l)) : Int)) (encs l)))) (AV.sl 5 false (encs (List.drop n l))) from (Sub.of_eq (by simp only [Go.Bd.encs_length, Go.Bd.encs_take, Go.Bd.encs_drop, Int.toNat_natCast, List.take_length]))), kp (show (0 : Int) ≤ (↑n : Int) ∧ (↑n : Int) ≤ (↑(List.length (encs l)) : Int) ∧ (↑(List.length (encs l)) : Int) ≤ (↑(List.length (encs l)) : Int) from (by rw [Go.Bd.encs_length]; omega)), kv 54 (show Am.Sub (AV.own 0 1 0 (1 + List.length (encs (List.drop n l)))) (AV.own 0 1 0 (1 + List.length (List.drop n l))) from (Sub.of_eq (by simp only [Go.Bd.encs_length, Int.toNat_natCast]))), kp hz12, kp hz13, kp o3, kv 14 (show Am.Sub (int (IntKind.wrap IntKind.i64 ((↑i : Int) + 1))) (int (↑(i + 1) : Int)) from (Sub.of_wrap (by omega) (by omega) (by omega)))] (others 56 [0, 1, 5, 6]) 1 h (by kernel_rfl)
  · have h := h.2 c2
    obtain ⟨o4, h⟩ := h
    obtain ⟨o5, h⟩ := h
    obtain ⟨o6, h⟩ := h
    exact loop_next [kv 11 hz0, kt hz1, ko (Orc.elem (enc x)), kp hz2, kf hz3, kl [9, 10, 11, 12, 15, 16, 17, 18, 19, 20, 21] 0 hz4, kv 43 hz5, kp hz6, kv 44 (show Am.Sub (AV.own 0 0 0 (0 + List.length (encs (List.take n l)))) (AV.own 0 0 0 (List.length (List.take n l))) from (Sub.of_eq (by simp [Go.Bd.encs_length, Go.Bd.encs_ids, Go.Bd.encs_pure, Go.Bd.encs_all]))), ko (Orc.elem (enc x)), kp c2, kp o4, kp hz2, kp hz12, kp (show List.length (List.take n l) = List.length (encs (List.take n l)) from ((Go.Bd.encs_length _).symm)), kp o5, kv 53 (show Am.Sub (AV.sl 5 false (List.drop (Int.toNat (↑n : Int)) (List.take (Int.toNat (↑(List.length (encs l)) : Int)) (encs l)))) (AV.sl 5 false (encs (List.drop n l))) from (Sub.of_eq (by simp only [Go.Bd.encs_length, Go.Bd.encs_take, Go.Bd.encs_drop, Int.toNat_natCast, List.take_length]))), kp (show (0 : Int) ≤ (↑n : Int) ∧ (↑n : Int) ≤ (↑(List.length (encs l)) : Int) ∧ (↑(List.length (encs l)) : Int) ≤ (↑(List.length (encs l)) : Int) from (by rw [Go.Bd.encs_length]; omega)), kv 54 (show Am.Sub (AV.own 0 2 0 (List.length (List.take n l) + 1 + List.length (encs (List.drop n l)))) (AV.own 0 2 0 (List.length (List.take n l) + 1 + List.length (List.drop n l))) from (Sub.of_eq (by simp only [Go.Bd.encs_length, Int.toNat_natCast]))), kp hz13, kp (show List.length (List.take n l) + 1 = List.length (encs (List.take n l) ++ [[str (BE.ky x), int (BE.dv x), int (BE.sq x), int (BE.tm x), str (BE.vl x)]]) from (by simp only [List.length_append, List.length_cons, List.length_nil, List.length_map, Go.Bd.encs_length, Go.Bd.encs_ids, Go.Bd.encs_pure, Go.Bd.encs_all] <;> omega)), kp o6, kv 14 (show Am.Sub (int (IntKind.wrap IntKind.i64 ((↑i : Int) + 1))) (int (↑(i + 1) : Int)) from (Sub.of_wrap (by omega) (by omega) (by omega)))] (others 56 [0, 1, 5, 6]) 1 h (by kernel_rfl)

def rk (v : List BE) (i : Nat) (l : List ByteArray) : St := { env := slots 64 [(0, bes v), (3, strs l), (4, int i)], H := [] }
def rkI (v : List BE) (i n : Nat) (l : List ByteArray) : St := { env := slots 64 [(0, bes v), (3, strs l), (4, int i), (5, int n)], H := [] }
def rkX (l : List ByteArray) : St := { env := slots 64 [(3, strs l)], H := [] }

theorem rki_w (v : List BE) (i n m : Nat) (l : List ByteArray) (x : BE) (hx : v[i]? = some x) (hi : i < v.length) (hv : v.length ≤ 1000000000) (hl : l.length ≤ 1000000000) (ex : AEx) (h : ((((↑n : Int) < (↑(List.length l) : Int)) → (∃ x2 : ByteArray, (l[n]? = some x2) ∧ ((((Op.bytesLess (ByteArray.toList x2) (ByteArray.toList (BE.ky x))) = true) → RunL P G none 0 (loopAt P 20 1) (St.mk (slots 64 [(0, AV.sl 5 false (encs v)), (3, AV.sl 1 false (sts l)), (4, int (↑i : Int)), (5, int (↑(n + 1) : Int))]) [] []) ex (rkI v i m l)) ∧ (((Op.bytesLess (ByteArray.toList x2) (ByteArray.toList (BE.ky x))) = false) → (AEx.exit 2 = ex) ∧ (((↑n : Int) : Int) = ((↑m : Int))))))) ∧ ((¬(↑n : Int) < (↑(List.length l) : Int)) → (AEx.exit 2 = ex) ∧ (((↑n : Int) : Int) = ((↑m : Int)))))) : RunL P G none 0 (loopAt P 20 1) (rkI v i n l) ex (rkI v i m l) := by
  have hz0 : Am.Sub (int (↑(List.length (sts l)) : Int)) (int (↑(List.length l) : Int)) := (Sub.of_eq (by simp only [Go.Bd.sts_length]))
  have hz2 : (0 : Int) ≤ (↑i : Int) ∧ (encs v)[Int.toNat (↑i : Int)]? = some (enc x) := (el_nat hx)
  by_cases c1 : ((↑n : Int) < (↑(List.length l) : Int))
  · have h := h.1 c1
    obtain ⟨x2, o3, h⟩ := h
    have hz1 : (0 : Int) ≤ (↑n : Int) ∧ (sts l)[Int.toNat (↑n : Int)]? = some (st1 x2) := (el_nat o3)
    rcases Bool.eq_false_or_eq_true ((Op.bytesLess (ByteArray.toList x2) (ByteArray.toList (BE.ky x)))) with c4 | c4
    · have h := h.1 c4
      exact loop_next [kv 15 hz0, kt (decide_eq_true c1), ko (Orc.elem (st1 x2)), ko (Orc.elem (enc x)), kp hz1, kp hz2, kt c4, kv 30 (show Am.Sub (int (IntKind.wrap IntKind.i64 ((↑n : Int) + 1))) (int (↑(n + 1) : Int)) from (Sub.of_wrap (by omega) (by omega) (by omega)))] (others 64 [0, 3, 4, 5]) 0 h (by kernel_rfl)
    · have h := h.2 c4
      obtain ⟨eX, e1⟩ := h
      exact RunL.to ((show RunL P G none 0 (loopAt P 20 1) (rkI v i n l) (AEx.exit 2) (St.mk (slots 64 [(0, AV.sl 5 false (encs v)), (3, AV.sl 1 false (sts l)), (4, int (↑i : Int)), (5, int (↑n : Int))]) [] []) from loop_exit [kv 15 hz0, kt (decide_eq_true c1), ko (Orc.elem (st1 x2)), ko (Orc.elem (enc x)), kp hz1, kp hz2, kf c4] (others 64 [0, 3, 4, 5]) 0 (by kernel_rfl))) eX (SubS.slots ⟨rfl, Sub.refl _, rfl, Sub.refl _, rfl, Sub.refl _, rfl, (Sub.int_eq e1), trivial⟩)
  · have h := h.2 c1
    obtain ⟨eX, e1⟩ := h
    exact RunL.to ((show RunL P G none 0 (loopAt P 20 1) (rkI v i n l) (AEx.exit 2) (St.mk (slots 64 [(0, AV.sl 5 false (encs v)), (3, AV.sl 1 false (sts l)), (4, int (↑i : Int)), (5, int (↑n : Int))]) [] []) from loop_exit [kv 15 hz0, kf (decide_eq_false c1), kf (Eq.refl false)] (others 64 [0, 3, 4, 5]) 0 (by kernel_rfl))) eX (SubS.slots ⟨rfl, Sub.refl _, rfl, Sub.refl _, rfl, Sub.refl _, rfl, (Sub.int_eq e1), trivial⟩)

theorem rk_e (v : List BE) (i : Nat) (l : List ByteArray) (hi : ¬ (i : Int) < (v.length : Int)) (h : True) : RunL P G none 0 (loopAt P 20 0) (rk v i l) (AEx.exit 0) (rkX l) := by
  have _ := h
  exact loop_exit [kv 9 (show Am.Sub (int (↑(List.length (encs v)) : Int)) (int (↑(List.length v) : Int)) from (Sub.of_eq (by simp only [Go.Bd.encs_length]))), kf (show decide ((↑i : Int) < (↑(List.length v) : Int)) = false from (decide_eq_false (by omega)))] (others 64 [3]) 0 (by kernel_rfl)

theorem rk_n (v : List BE) (i n : Nat) (l : List ByteArray) (x : BE) (hv : v.length ≤ 1000000000) (hi : (i : Int) < (v.length : Int)) (hx : v[i]? = some x) (hl : l.length ≤ 1000000000) (hn : n ≤ l.length) (hM : RunL P G none 0 (loopAt P 20 1) (rkI v i 0 l) (.exit 2) (rkI v i n l)) (ex : AEx) (s : St) (h : ((((↑n : Int) = (↑(List.length l) : Int)) → (((sts (List.take n l) = []) → (((1 + List.length (sts (List.drop n l))) * 16 ≤ 140737488355328) ∧ RunL P G none 0 (loopAt P 20 0) (St.mk (slots 64 [(0, AV.sl 5 false (encs v)), (3, AV.own 0 1 0 (1 + List.length (List.drop n l))), (4, int (↑(i + 1) : Int))]) [AObj.arr 1 1 false ([str (BE.ky x)] :: sts (List.drop n l))] []) ex s)) ∧ ((¬sts (List.take n l) = []) → (((0 + List.length (sts (List.take n l))) * 16 ≤ 140737488355328) ∧ (((List.length (List.take n l) + 1) * 16 ≤ 140737488355328) ∧ (((List.length (List.take n l) + 1 + List.length (sts (List.drop n l))) * 16 ≤ 140737488355328) ∧ RunL P G none 0 (loopAt P 20 0) (St.mk (slots 64 [(0, AV.sl 5 false (encs v)), (3, AV.own 0 2 0 (List.length (List.take n l) + 1 + List.length (List.drop n l))), (4, int (↑(i + 1) : Int))]) [AObj.arr 2 1 false (sts (List.take n l) ++ [[str (BE.ky x)]] ++ sts (List.drop n l))] []) ex s)))))) ∧ ((¬(↑n : Int) = (↑(List.length l) : Int)) → (∃ x8 : ByteArray, (l[n]? = some x8) ∧ ((((ByteArray.toList x8 == ByteArray.toList (BE.ky x)) = true) → RunL P G none 0 (loopAt P 20 0) (St.mk (slots 64 [(0, AV.sl 5 false (encs v)), (3, AV.sl 1 false (sts l)), (4, int (↑(i + 1) : Int))]) [] []) ex s) ∧ (((ByteArray.toList x8 == ByteArray.toList (BE.ky x)) = false) → (((sts (List.take n l) = []) → (((1 + List.length (sts (List.drop n l))) * 16 ≤ 140737488355328) ∧ RunL P G none 0 (loopAt P 20 0) (St.mk (slots 64 [(0, AV.sl 5 false (encs v)), (3, AV.own 0 1 0 (1 + List.length (List.drop n l))), (4, int (↑(i + 1) : Int))]) [AObj.arr 1 1 false ([str (BE.ky x)] :: sts (List.drop n l))] []) ex s)) ∧ ((¬sts (List.take n l) = []) → (((0 + List.length (sts (List.take n l))) * 16 ≤ 140737488355328) ∧ (((List.length (List.take n l) + 1) * 16 ≤ 140737488355328) ∧ (((List.length (List.take n l) + 1 + List.length (sts (List.drop n l))) * 16 ≤ 140737488355328) ∧ RunL P G none 0 (loopAt P 20 0) (St.mk (slots 64 [(0, AV.sl 5 false (encs v)), (3, AV.own 0 2 0 (List.length (List.take n l) + 1 + List.length (List.drop n l))), (4, int (↑(i + 1) : Int))]) [AObj.arr 2 1 false (sts (List.take n l) ++ [[str (BE.ky x)]] ++ sts (List.drop n l))] []) ex s))))))))))) : RunL P G none 0 (loopAt P 20 0) (rk v i l) ex s := by
  have hz0 : Am.Sub (int (↑(List.length (encs v)) : Int)) (int (↑(List.length v) : Int)) := (Sub.of_eq (by simp only [Go.Bd.encs_length, Int.toNat_natCast]))
  have hz1 : decide ((↑i : Int) < (↑(List.length v) : Int)) = true := (decide_eq_true (by omega))
  have hz2 := (@hM )
  have hz3 : Am.Sub (int (↑(List.length (sts l)) : Int)) (int (↑(List.length l) : Int)) := (Sub.of_eq (by simp only [Go.Bd.sts_length, Int.toNat_natCast]))
  have hz6 : (0 : Int) ≤ (↑i : Int) ∧ (encs v)[Int.toNat (↑i : Int)]? = some (enc x) := (el_nat hx)
  have hz12 : 0 = 0 := (rfl)
  have hz13 : 1 = 1 := (rfl)
  have hz16 : List.length (List.take n l) = List.length (sts (List.take n l)) := ((Go.Bd.sts_length _).symm)
  by_cases c2 : ((↑n : Int) = (↑(List.length l) : Int))
  · have h := h.1 c2
    have hz4 : Am.Sub (AV.sl 1 false (List.drop 0 (List.take (Int.toNat (↑n : Int)) (sts l)))) (AV.sl 1 false (sts (List.take n l))) := (Sub.of_eq (by simp only [Go.Bd.sts_take, Int.toNat_natCast, List.drop_zero]))
    have hz5 : (0 : Int) ≤ (0 : Int) ∧ (0 : Int) ≤ (↑n : Int) ∧ (↑n : Int) ≤ (↑(List.length (sts l)) : Int) := (by rw [Go.Bd.sts_length]; omega)
    by_cases c3 : (sts (List.take n l) = [])
    · have h := h.1 c3
      obtain ⟨o4, h⟩ := h
      exact loop_next [kv 9 hz0, kt hz1, kl [7, 8, 9, 10] 0 hz2, kv 33 hz3, kt (beq_iff_eq.2 c2), kt (Eq.refl true), kv 50 hz4, ko (Orc.emp), ko (Orc.elem (enc x)), kp hz5, kp c3, kp hz6, kp (show [[str (BE.ky x)]] ≠ [] from (by simp)), kp (show 16 ≤ 140737488355328 from (by omega)), kv 61 (show Am.Sub (AV.sl 1 false (List.drop (Int.toNat (↑n : Int)) (List.take (Int.toNat (↑(List.length (sts l)) : Int)) (sts l)))) (AV.sl 1 false (sts (List.drop n l))) from (Sub.of_eq (by simp only [Go.Bd.sts_length, Go.Bd.sts_take, Go.Bd.sts_drop, Int.toNat_natCast, List.take_length]))), kp (show (0 : Int) ≤ (↑n : Int) ∧ (↑n : Int) ≤ (↑(List.length (sts l)) : Int) ∧ (↑(List.length (sts l)) : Int) ≤ (↑(List.length (sts l)) : Int) from (by rw [Go.Bd.sts_length]; omega)), kv 62 (show Am.Sub (AV.own 0 1 0 (1 + List.length (sts (List.drop n l)))) (AV.own 0 1 0 (1 + List.length (List.drop n l))) from (Sub.of_eq (by simp only [Go.Bd.sts_length, Int.toNat_natCast]))), kp hz12, kp hz13, kp o4, kv 12 (show Am.Sub (int (IntKind.wrap IntKind.i64 ((↑i : Int) + 1))) (int (↑(i + 1) : Int)) from (Sub.of_wrap (by omega) (by omega) (by omega)))] (others 64 [0, 3, 4]) 1 h (by kernel_rfl)
    · have h := h.2 c3
      obtain ⟨o5, h⟩ := h
      obtain ⟨o6, h⟩ := h
      obtain ⟨o7, h⟩ := h
      exact loop_next [kv 9 hz0, kt hz1, kl [7, 8, 9, 10] 0 hz2, kv 33 hz3, kt (beq_iff_eq.2 c2), kt (Eq.refl true), kv 50 hz4, kp hz5, kv 51 (show Am.Sub (AV.own 0 0 0 (0 + List.length (sts (List.take n l)))) (AV.own 0 0 0 (List.length (List.take n l))) from (Sub.of_eq (by simp [Go.Bd.sts_length, Go.Bd.sts_ids, Go.Bd.sts_pure, Go.Bd.sts_all]))), ko (Orc.elem (enc x)), kp c3, kp o5, kp hz6, kp hz12, kp hz16, kp o6, kv 61 (show Am.Sub (AV.sl 1 false (List.drop (Int.toNat (↑n : Int)) (List.take (Int.toNat (↑(List.length (sts l)) : Int)) (sts l)))) (AV.sl 1 false (sts (List.drop n l))) from (Sub.of_eq (by simp only [Go.Bd.sts_length, Go.Bd.sts_take, Go.Bd.sts_drop, Int.toNat_natCast, List.take_length]))), kp (show (0 : Int) ≤ (↑n : Int) ∧ (↑n : Int) ≤ (↑(List.length (sts l)) : Int) ∧ (↑(List.length (sts l)) : Int) ≤ (↑(List.length (sts l)) : Int) from (by rw [Go.Bd.sts_length]; omega)), kv 62 (show Am.Sub (AV.own 0 2 0 (List.length (List.take n l) + 1 + List.length (sts (List.drop n l)))) (AV.own 0 2 0 (List.length (List.take n l) + 1 + List.length (List.drop n l))) from (Sub.of_eq (by simp only [Go.Bd.sts_length, Int.toNat_natCast]))), kp hz13, kp (show List.length (List.take n l) + 1 = List.length (sts (List.take n l) ++ [[str (BE.ky x)]]) from (by simp only [List.length_append, List.length_cons, List.length_nil, List.length_map, Go.Bd.sts_length, Go.Bd.sts_ids, Go.Bd.sts_pure, Go.Bd.sts_all] <;> omega)), kp o7, kv 12 (show Am.Sub (int (IntKind.wrap IntKind.i64 ((↑i : Int) + 1))) (int (↑(i + 1) : Int)) from (Sub.of_wrap (by omega) (by omega) (by omega)))] (others 64 [0, 3, 4]) 1 h (by kernel_rfl)
  · have h := h.2 c2
    have hz4 : Am.Sub (AV.sl 1 false (List.drop 0 (List.take (Int.toNat (↑n : Int)) (sts l)))) (AV.sl 1 false (sts (List.take n l))) := (Sub.of_eq (by simp only [Go.Bd.sts_take, Int.toNat_natCast, List.drop_zero]))
    have hz5 : (0 : Int) ≤ (0 : Int) ∧ (0 : Int) ≤ (↑n : Int) ∧ (↑n : Int) ≤ (↑(List.length (sts l)) : Int) := (by rw [Go.Bd.sts_length]; omega)
    obtain ⟨x8, o9, h⟩ := h
    have hz19 : (0 : Int) ≤ (↑n : Int) ∧ (sts l)[Int.toNat (↑n : Int)]? = some (st1 x8) := (el_nat o9)
    rcases Bool.eq_false_or_eq_true ((ByteArray.toList x8 == ByteArray.toList (BE.ky x))) with c10 | c10
    · have h := h.1 c10
      exact loop_next [kv 9 hz0, kt hz1, kl [7, 8, 9, 10] 0 hz2, kv 33 hz3, kf (beq_eq_false_iff_ne.2 c2), ko (Orc.elem (st1 x8)), ko (Orc.elem (enc x)), kp hz19, kp hz6, kf (show (!ByteArray.toList x8 == ByteArray.toList (BE.ky x)) = false from (congrArg Bool.not (c10))), kv 12 (show Am.Sub (int (IntKind.wrap IntKind.i64 ((↑i : Int) + 1))) (int (↑(i + 1) : Int)) from (Sub.of_wrap (by omega) (by omega) (by omega)))] (others 64 [0, 3, 4]) 0 h (by kernel_rfl)
    · have h := h.2 c10
      have hz21 : (!ByteArray.toList x8 == ByteArray.toList (BE.ky x)) = true := (congrArg Bool.not (c10))
      by_cases c11 : (sts (List.take n l) = [])
      · have h := h.1 c11
        obtain ⟨o12, h⟩ := h
        exact loop_next [kv 9 hz0, kt hz1, kl [7, 8, 9, 10] 0 hz2, kv 33 hz3, kf (beq_eq_false_iff_ne.2 c2), ko (Orc.elem (st1 x8)), ko (Orc.elem (enc x)), kp hz19, kp hz6, kt hz21, kv 50 hz4, ko (Orc.emp), ko (Orc.elem (enc x)), kp hz5, kp c11, kp hz6, kp (show [[str (BE.ky x)]] ≠ [] from (by simp)), kp (show 16 ≤ 140737488355328 from (by omega)), kv 61 (show Am.Sub (AV.sl 1 false (List.drop (Int.toNat (↑n : Int)) (List.take (Int.toNat (↑(List.length (sts l)) : Int)) (sts l)))) (AV.sl 1 false (sts (List.drop n l))) from (Sub.of_eq (by simp only [Go.Bd.sts_length, Go.Bd.sts_take, Go.Bd.sts_drop, Int.toNat_natCast, List.take_length]))), kp (show (0 : Int) ≤ (↑n : Int) ∧ (↑n : Int) ≤ (↑(List.length (sts l)) : Int) ∧ (↑(List.length (sts l)) : Int) ≤ (↑(List.length (sts l)) : Int) from (by rw [Go.Bd.sts_length]; omega)), kv 62 (show Am.Sub (AV.own 0 1 0 (1 + List.length (sts (List.drop n l)))) (AV.own 0 1 0 (1 + List.length (List.drop n l))) from (Sub.of_eq (by simp only [Go.Bd.sts_length, Int.toNat_natCast]))), kp hz12, kp hz13, kp o12, kv 12 (show Am.Sub (int (IntKind.wrap IntKind.i64 ((↑i : Int) + 1))) (int (↑(i + 1) : Int)) from (Sub.of_wrap (by omega) (by omega) (by omega)))] (others 64 [0, 3, 4]) 1 h (by kernel_rfl)
      · have h := h.2 c11
        obtain ⟨o13, h⟩ := h
        obtain ⟨o14, h⟩ := h
        obtain ⟨o15, h⟩ := h
        exact loop_next [kv 9 hz0, kt hz1, kl [7, 8, 9, 10] 0 hz2, kv 33 hz3, kf (beq_eq_false_iff_ne.2 c2), ko (Orc.elem (st1 x8)), ko (Orc.elem (enc x)), kp hz19, kp hz6, kt hz21, kv 50 hz4, kp hz5, kv 51 (show Am.Sub (AV.own 0 0 0 (0 + List.length (sts (List.take n l)))) (AV.own 0 0 0 (List.length (List.take n l))) from (Sub.of_eq (by simp [Go.Bd.sts_length, Go.Bd.sts_ids, Go.Bd.sts_pure, Go.Bd.sts_all]))), ko (Orc.elem (enc x)), kp c11, kp o13, kp hz6, kp hz12, kp hz16, kp o14, kv 61 (show Am.Sub (AV.sl 1 false (List.drop (Int.toNat (↑n : Int)) (List.take (Int.toNat (↑(List.length (sts l)) : Int)) (sts l)))) (AV.sl 1 false (sts (List.drop n l))) from (Sub.of_eq (by simp only [Go.Bd.sts_length, Go.Bd.sts_take, Go.Bd.sts_drop, Int.toNat_natCast, List.take_length]))), kp (show (0 : Int) ≤ (↑n : Int) ∧ (↑n : Int) ≤ (↑(List.length (sts l)) : Int) ∧ (↑(List.length (sts l)) : Int) ≤ (↑(List.length (sts l)) : Int) from (by rw [Go.Bd.sts_length]; omega)), kv 62 (show Am.Sub (AV.own 0 2 0 (List.length (List.take n l) + 1 + List.length (sts (List.drop n l)))) (AV.own 0 2 0 (List.length (List.take n l) + 1 + List.length (List.drop n l))) from (Sub.of_eq (by simp only [Go.Bd.sts_length, Int.toNat_natCast]))), kp hz13, kp (show List.length (List.take n l) + 1 = List.length (sts (List.take n l) ++ [[str (BE.ky x)]]) from (by simp only [List.length_append, List.length_cons, List.length_nil, List.length_map, Go.Bd.sts_length, Go.Bd.sts_ids, Go.Bd.sts_pure, Go.Bd.sts_all] <;> omega)), kp o15, kv 12 (show Am.Sub (int (IntKind.wrap IntKind.i64 ((↑i : Int) + 1))) (int (↑(i + 1) : Int)) from (Sub.of_wrap (by omega) (by omega) (by omega)))] (others 64 [0, 3, 4]) 1 h (by kernel_rfl)

/-- Where a new one goes. -/
def plc (x : BE) (l : List BE) : Nat := (l.takeWhile fun a => !moreB x a).length
def insM (x : BE) (l : List BE) : List BE := l.take (plc x l) ++ [x] ++ l.drop (plc x l)
def valR (k : ByteArray) : List BE → List BE → List BE
  | l, [] => l
  | l, x :: t => valR k (if x.ky = k then insM x l else l) t
def plcK (k : ByteArray) (l : List ByteArray) : Nat := (l.takeWhile fun a => ltS a k).length
def insK (k : ByteArray) (l : List ByteArray) : List ByteArray := if l[plcK k l]? = some k then l else l.take (plcK k l) ++ [k] ++ l.drop (plcK k l)
def keyR : List ByteArray → List BE → List ByteArray
  | l, [] => l
  | l, x :: t => keyR (insK x.ky l) t
theorem plc_le (x : BE) (l : List BE) : plc x l ≤ l.length := (List.takeWhile_sublist _).length_le
theorem plcK_le (x : ByteArray) (l : List ByteArray) : plcK x l ≤ l.length := (List.takeWhile_sublist _).length_le
theorem insM_len (x : BE) (l : List BE) : (insM x l).length = l.length + 1 := by
  have := plc_le x l
  simp [insM]; omega
theorem insK_len (x : ByteArray) (l : List ByteArray) : (insK x l).length ≤ l.length + 1 := by
  unfold insK
  have := plcK_le x l
  split
  · omega
  · simp; omega

theorem rvi_loop (v : List BE) (k : ByteArray) (i : Nat) (l : List BE) (hi : i < v.length) (hv : v.length ≤ 1000000000) (hl : l.length ≤ 1000000000) : ∀ n j, l.length - j = n → j ≤ l.length → RunL P G none 0 (loopAt P 22 1) (rvI v k i j l) (.exit 2) (rvI v k i (j + ((l.drop j).takeWhile fun a => !moreB v[i] a).length) l) := by
  have hx : v[i]? = some v[i] := List.getElem?_eq_getElem hi
  intro n
  induction n with
  | zero =>
    intro j hn hk
    rw [List.drop_eq_nil_of_le (by omega)]
    exact rvi_w v k i j _ l _ hx hi hv hl _ ⟨fun h => absurd h (by omega), fun _ => ⟨rfl, by simp⟩⟩
  | succ n ih =>
    intro j hn hk
    have hlt : j < l.length := by omega
    have hy : l[j]? = some l[j] := List.getElem?_eq_getElem hlt
    have nx := ih (j + 1) (by omega) (by omega)
    rw [List.drop_eq_getElem_cons hlt, List.takeWhile_cons]
    refine rvi_w v k i j _ l _ hx hi hv hl _ ⟨fun _ => ⟨l[j], hy, ⟨fun hm => ?_, fun hm => ?_⟩⟩, fun h => absurd hlt (by omega)⟩
    · rw [if_neg (by rw [hm]; decide)]
      exact ⟨rfl, by simp⟩
    · rw [if_pos (by rw [hm]; rfl), List.length_cons]
      rw [show j + 1 + ((l.drop (j + 1)).takeWhile fun a => !moreB v[i] a).length = j + (((l.drop (j + 1)).takeWhile fun a => !moreB v[i] a).length + 1) by omega] at nx
      exact nx
theorem rki_loop (v : List BE) (i : Nat) (l : List ByteArray) (hi : i < v.length) (hv : v.length ≤ 1000000000) (hl : l.length ≤ 1000000000) : ∀ n j, l.length - j = n → j ≤ l.length → RunL P G none 0 (loopAt P 20 1) (rkI v i j l) (.exit 2) (rkI v i (j + ((l.drop j).takeWhile fun a => ltS a v[i].ky).length) l) := by
  have hx : v[i]? = some v[i] := List.getElem?_eq_getElem hi
  intro n
  induction n with
  | zero =>
    intro j hn hk
    rw [List.drop_eq_nil_of_le (by omega)]
    exact rki_w v i j _ l _ hx hi hv hl _ ⟨fun h => absurd h (by omega), fun _ => ⟨rfl, by simp⟩⟩
  | succ n ih =>
    intro j hn hk
    have hlt : j < l.length := by omega
    have hy : l[j]? = some l[j] := List.getElem?_eq_getElem hlt
    have nx := ih (j + 1) (by omega) (by omega)
    rw [List.drop_eq_getElem_cons hlt, List.takeWhile_cons]
    refine rki_w v i j _ l _ hx hi hv hl _ ⟨fun _ => ⟨l[j], hy, ⟨fun hm => ?_, fun hm => ?_⟩⟩, fun h => absurd hlt (by omega)⟩
    · rw [if_pos (show ltS l[j] v[i].ky = true from hm), List.length_cons]
      rw [show j + 1 + ((l.drop (j + 1)).takeWhile fun a => ltS a v[i].ky).length = j + (((l.drop (j + 1)).takeWhile fun a => ltS a v[i].ky).length + 1) by omega] at nx
      exact nx
    · rw [if_neg (by unfold ltS; rw [hm]; decide)]
      exact ⟨rfl, by simp⟩

/-- The values as data, the array let go. -/
theorem rv_fr (v : List BE) (k : ByteArray) (i : Nat) (ys : List BE) (g n : Nat) (xs : List (List AV)) (hxs : xs = encs ys) (hn : n = ys.length) {ex : AEx} {s' : St} (h : RunL P G none 0 (loopAt P 22 0) (rv v k i ys) ex s') :
    RunL P G none 0 (loopAt P 22 0) { env := slots 56 [(0, bes v), (1, str k), (5, .own 0 g 0 n), (6, int i)], H := [.arr g 5 false xs] } ex s' := by
  subst hxs hn
  refine RunL.frzSlot (t := 5) (z := encs ys) (y := bes ys) (H1 := [.arr g 5 true (encs ys)]) (ps := _) rfl rfl ?_ ?_
  · exact ⟨rfl, encs_all ys, encs_length ys, encs_pure ys, trivial⟩
  · exact RunL.weakPre [] 0 (s2 := rv v k i ys) (ps := _) rfl trivial h
theorem rk_fr (v : List BE) (i : Nat) (ys : List ByteArray) (g n : Nat) (xs : List (List AV)) (hxs : xs = sts ys) (hn : n = ys.length) {ex : AEx} {s' : St} (h : RunL P G none 0 (loopAt P 20 0) (rk v i ys) ex s') :
    RunL P G none 0 (loopAt P 20 0) { env := slots 64 [(0, bes v), (3, .own 0 g 0 n), (4, int i)], H := [.arr g 1 false xs] } ex s' := by
  subst hxs hn
  refine RunL.frzSlot (t := 3) (z := sts ys) (y := strs ys) (H1 := [.arr g 1 true (sts ys)]) (ps := _) rfl rfl ?_ ?_
  · exact ⟨rfl, sts_all ys, sts_length ys, sts_pure ys, trivial⟩
  · exact RunL.weakPre [] 0 (s2 := rk v i ys) (ps := _) rfl trivial h

theorem rv_loop (v : List BE) (k : ByteArray) (hv : v.length ≤ 10000000) : ∀ n i (l : List BE), v.length - i = n → i ≤ v.length → l.length ≤ i → RunL P G none 0 (loopAt P 22 0) (rv v k i l) (.exit 0) (rvX (valR k l (v.drop i))) := by
  intro n
  induction n with
  | zero =>
    intro i l hn hk _
    rw [List.drop_eq_nil_of_le (by omega)]
    exact rv_e v k i l (by omega) trivial
  | succ n ih =>
    intro i l hn hk hl
    have hlt : i < v.length := by omega
    have hx : v[i]? = some v[i] := List.getElem?_eq_getElem hlt
    rw [List.drop_eq_getElem_cons hlt, valR]
    by_cases he : v[i].ky = k
    · rw [if_pos he]
      have hM := rvi_loop v k i l hlt (by omega) (by omega) _ 0 rfl (by omega)
      rw [List.drop_zero, Nat.zero_add] at hM
      have hp := plc_le v[i] l
      have nx := ih (i + 1) (insM v[i] l) (by omega) (by omega) (by rw [insM_len]; omega)
      have hL := insM_len v[i] l
      refine rv_n v k i (plc v[i] l) l _ (by omega) (by omega) hx (by rw [str_eq, decide_eq_true he]) (by omega) hp hM _ _ ⟨fun hq => ⟨?_, ?_⟩, fun hq => ⟨?_, ?_, ?_, ?_⟩⟩
      · rw [encs_length, List.length_drop]; omega
      · have hq : l.take (plc v[i] l) = [] := by simpa [encs] using hq
        have e : insM v[i] l = v[i] :: l.drop (plc v[i] l) := by rw [insM, hq]; rfl
        exact rv_fr v k (i + 1) (insM v[i] l) _ _ _ (by rw [e]; rfl) (by rw [e, List.length_cons]; omega) nx
      · rw [encs_length, List.length_take]; omega
      · rw [List.length_take]; omega
      · rw [encs_length, List.length_take, List.length_drop]; omega
      · exact rv_fr v k (i + 1) (insM v[i] l) _ _ _ (by rw [insM, ← encs_append, ← encs_append]; rfl) (by rw [insM, List.length_append, List.length_append, List.length_singleton]) nx
    · rw [if_neg he]
      exact rv_s v k i l _ (by omega) (by omega) hx (by rw [str_eq, decide_eq_false he]) _ _ (ih (i + 1) l (by omega) (by omega) (by omega))

theorem rvals_w (v : List BE) (k : ByteArray) (l : List BE) (h0 : RunL P G none 0 (loopAt P 22 0) (rv v k 0 []) (.exit 0) (rvX l)) (h : True) : CallC P G 22 [bes v, str k] [] (AOut.ret (bes l)) [] := by
  have _ := h
  exact callC_of [kl [2, 3, 4, 7, 8, 9, 10, 11, 12, 13, 14, 15, 16, 17, 18, 19, 20, 21, 22, 23, 24, 25, 26, 27, 28, 29, 30, 31, 32, 33, 34, 35, 36, 37, 38, 39, 40, 41, 42, 43, 44, 45, 46, 47, 48, 49, 50, 51, 52, 53, 54, 55] 0 (show RunL P G none 0 (loopAt P 22 0) (St.mk (slots 56 [(0, AV.sl 5 false (encs v)), (1, str k), (5, AV.sl 5 true []), (6, int 0)]) [] []) (AEx.exit 0) (St.mk (slots 56 [(5, AV.sl 5 false (encs l))]) [] []) from (RunL.pre (@h0 ) (SubS.slots ⟨rfl, Sub.refl _, rfl, Sub.refl _, rfl, Sub.loose _ _ _, rfl, Sub.refl _, trivial⟩)))] (by kernel_rfl)

theorem rvals_c (v : List BE) (k : ByteArray) (hv : v.length ≤ 10000000) : CallC P G 22 [bes v, str k] [] (.ret (bes (valR k [] v))) [] := by
  have h := rv_loop v k hv _ 0 [] rfl (by omega) (by simp)
  rw [List.drop_zero] at h
  exact rvals_w v k _ h trivial

theorem rk_ins (v : List BE) (i : Nat) (l : List ByteArray) (hi : i < v.length) (hv : v.length ≤ 10000000) (hl : l.length ≤ i) {s : St} {ex : AEx} (nx : RunL P G none 0 (loopAt P 20 0) (rk v (i + 1) (l.take (plcK v[i].ky l) ++ [v[i].ky] ++ l.drop (plcK v[i].ky l))) ex s) :
    (((sts (l.take (plcK v[i].ky l)) = []) → (((1 + List.length (sts (l.drop (plcK v[i].ky l)))) * 16 ≤ 140737488355328) ∧ RunL P G none 0 (loopAt P 20 0) (St.mk (slots 64 [(0, AV.sl 5 false (encs v)), (3, AV.own 0 1 0 (1 + List.length (List.drop (plcK v[i].ky l) l))), (4, int (↑(i + 1) : Int))]) [AObj.arr 1 1 false ([str (BE.ky v[i])] :: sts (List.drop (plcK v[i].ky l) l))] []) ex s)) ∧ ((¬sts (List.take (plcK v[i].ky l) l) = []) → (((0 + List.length (sts (List.take (plcK v[i].ky l) l))) * 16 ≤ 140737488355328) ∧ (((List.length (List.take (plcK v[i].ky l) l) + 1) * 16 ≤ 140737488355328) ∧ (((List.length (List.take (plcK v[i].ky l) l) + 1 + List.length (sts (List.drop (plcK v[i].ky l) l))) * 16 ≤ 140737488355328) ∧ RunL P G none 0 (loopAt P 20 0) (St.mk (slots 64 [(0, AV.sl 5 false (encs v)), (3, AV.own 0 2 0 (List.length (List.take (plcK v[i].ky l) l) + 1 + List.length (List.drop (plcK v[i].ky l) l))), (4, int (↑(i + 1) : Int))]) [AObj.arr 2 1 false (sts (List.take (plcK v[i].ky l) l) ++ [[str (BE.ky v[i])]] ++ sts (List.drop (plcK v[i].ky l) l))] []) ex s))))) := by
  have hp := plcK_le v[i].ky l
  refine ⟨fun hq => ⟨?_, ?_⟩, fun hq => ⟨?_, ?_, ?_, ?_⟩⟩
  · rw [sts_length, List.length_drop]; omega
  · have hq : l.take (plcK v[i].ky l) = [] := by simpa [sts] using hq
    rw [hq] at nx
    exact rk_fr v (i + 1) _ _ _ _ rfl (by simp; omega) nx
  · rw [sts_length, List.length_take]; omega
  · rw [List.length_take]; omega
  · rw [sts_length, List.length_take, List.length_drop]; omega
  · exact rk_fr v (i + 1) _ _ _ _ (by rw [← sts_append, ← sts_append]; rfl) (by rw [List.length_append, List.length_append, List.length_singleton]) nx
theorem rk_loop (v : List BE) (hv : v.length ≤ 10000000) : ∀ n i (l : List ByteArray), v.length - i = n → i ≤ v.length → l.length ≤ i → RunL P G none 0 (loopAt P 20 0) (rk v i l) (.exit 0) (rkX (keyR l (v.drop i))) := by
  intro n
  induction n with
  | zero =>
    intro i l hn hk _
    rw [List.drop_eq_nil_of_le (by omega)]
    exact rk_e v i l (by omega) trivial
  | succ n ih =>
    intro i l hn hk hl
    have hlt : i < v.length := by omega
    have hx : v[i]? = some v[i] := List.getElem?_eq_getElem hlt
    rw [List.drop_eq_getElem_cons hlt, keyR]
    have hM := rki_loop v i l hlt (by omega) (by omega) _ 0 rfl (by omega)
    rw [List.drop_zero, Nat.zero_add] at hM
    have hp := plcK_le v[i].ky l
    have nx := ih (i + 1) (insK v[i].ky l) (by omega) (by omega) (by have := insK_len v[i].ky l; omega)
    refine rk_n v i (plcK v[i].ky l) l _ (by omega) (by omega) hx (by omega) hp hM _ _ ⟨fun hq => ?_, fun hq => ?_⟩
    · have e : l[plcK v[i].ky l]? = none := List.getElem?_eq_none (by omega)
      rw [insK, e, if_neg (by simp)] at nx
      rw [insK, e, if_neg (by simp)]
      exact rk_ins v i l hlt hv hl nx
    · have e : l[plcK v[i].ky l]? = some (l[plcK v[i].ky l]'(by omega)) := List.getElem?_eq_getElem (by omega)
      refine ⟨_, e, fun h => ?_, fun h => ?_⟩
      · rw [str_eq, decide_eq_true_iff] at h
        rw [insK, e, if_pos (by rw [h])] at nx
        rw [insK, e, if_pos (by rw [h])]
        exact nx
      · rw [str_eq, decide_eq_false_iff_not] at h
        rw [insK, e, if_neg (fun h' => h (by injection h'))] at nx
        rw [insK, e, if_neg (fun h' => h (by injection h'))]
        exact rk_ins v i l hlt hv hl nx

theorem rkeys_w (v : List BE) (l : List ByteArray) (h0 : RunL P G none 0 (loopAt P 20 0) (rk v 0 []) (.exit 0) (rkX l)) (h : True) : CallC P G 20 [bes v] [] (AOut.ret (strs l)) [] := by
  have _ := h
  exact callC_of [kl [1, 2, 5, 6, 7, 8, 9, 10, 11, 12, 13, 14, 15, 16, 17, 18, 19, 20, 21, 22, 23, 24, 25, 26, 27, 28, 29, 30, 31, 32, 33, 34, 35, 36, 37, 38, 39, 40, 41, 42, 43, 44, 45, 46, 47, 48, 49, 50, 51, 52, 53, 54, 55, 56, 57, 58, 59, 60, 61, 62, 63] 0 (show RunL P G none 0 (loopAt P 20 0) (St.mk (slots 64 [(0, AV.sl 5 false (encs v)), (3, AV.sl 1 true []), (4, int 0)]) [] []) (AEx.exit 0) (St.mk (slots 64 [(3, AV.sl 1 false (sts l))]) [] []) from (RunL.pre (@h0 ) (SubS.slots ⟨rfl, Sub.refl _, rfl, Sub.loose _ _ _, rfl, Sub.refl _, trivial⟩)))] (by kernel_rfl)

theorem rkeys_c (v : List BE) (hv : v.length ≤ 10000000) : CallC P G 20 [bes v] [] (.ret (strs (keyR [] v))) [] := by
  have h := rk_loop v hv _ 0 [] rfl (by omega) (by simp)
  rw [List.drop_zero] at h
  exact rkeys_w v _ h trivial

end Go.Bd

/- BINDS, 7: the reference's rest, Drop. -/
namespace Go.Bd
set_option maxRecDepth 100000
set_option linter.unusedSimpArgs false
set_option linter.unusedVariables false
open Go Go.Am Go.Proofs Go.Seat

end Go.Bd

/- BINDS, 8: the reference's Put. -/
namespace Go.Bd
set_option maxRecDepth 100000
set_option linter.unusedSimpArgs false
set_option linter.unusedVariables false
open Go Go.Am Go.Proofs Go.Seat

end Go.Bd

/- BINDS, 21: the chapter's examples. -/
namespace Go.Bd
set_option maxRecDepth 100000
set_option linter.unusedSimpArgs false
set_option linter.unusedVariables false
open Go Go.Am Go.Proofs Go.Seat

abbrev kA : BE := ⟨⟨#[107]⟩, 1, 1, 5, ⟨#[120]⟩⟩
abbrev kB : BE := ⟨⟨#[107]⟩, 2, 1, 7, ⟨#[121]⟩⟩
abbrev kC : BE := ⟨⟨#[107]⟩, 3, 1, 8, ⟨#[122]⟩⟩
abbrev kZ : BE := ⟨⟨#[]⟩, 0, 0, 0, ⟨#[]⟩⟩
theorem p1 : putR [] [] kB = ([kB], 0) := by decide +kernel
theorem p2 : putR [kB] [] kA = ([kA, kB], 0) := by decide +kernel
theorem p3 : putR [kA, kB] [(1, 1)] kC = ([kB, kC], 0) := by decide +kernel
theorem p4 : dropR [kA, kB] [(2, 3)] ⟨#[107]⟩ = ([kA], 0) := by decide +kernel
theorem p5 : putR [] [] kZ = ([], 140) := by decide +kernel
theorem p6 : dropR [] [] ⟨#[107]⟩ = ([], 0) := by decide +kernel
theorem p7 : srt [] (fil ⟨#[107]⟩ [kA, kB]) = [kB, kA] := by decide +kernel
theorem p8 : keysOf [] [kA, kB] = [⟨#[107]⟩] := by decide +kernel
theorem p9 : chkE [kA, kA] = 140 := by decide +kernel
theorem nil2 {f : FuncId} {x : AV} {out : AOut} (h : CallC P G f [bes [], Vec.vec [], x] [] out []) : CallC P G f [nilS, nilS, x] [] out [] := h.args rfl fun j hj => by
  have : j < 3 := hj
  match j, this with
  | 0, _ => exact Sub.nil 5
  | 1, _ => exact Sub.nil 2
  | 2, _ => exact Sub.refl _
theorem sb_1 : CallC P G 12 [nilS, nilS, bel kB] [] (.ret (.tup [bes [kB], int 0])) [] := nil2 (by have h := put_c' [] [] kB (by decide) (by decide); rw [p1] at h; exact h)
theorem sb_2 : CallC P G 12 [bes [kB], nilS, bel kA] [] (.ret (.tup [bes [kA, kB], int 0])) [] := by
  have h := put_c' [kB] [] kA (by decide) (by decide)
  rw [p2] at h
  exact h.args rfl fun j hj => by
    have : j < 3 := hj
    match j, this with
    | 0, _ => exact Sub.refl _
    | 1, _ => exact Sub.nil 2
    | 2, _ => exact Sub.refl _
theorem sb_3 : CallC P G 12 [bes [kA, kB], Vec.vec [(1, 1)], bel kC] [] (.ret (.tup [bes [kB, kC], int 0])) [] := by
  have h := put_c' [kA, kB] [(1, 1)] kC (by decide) (by decide)
  rw [p3] at h
  exact h
theorem sb_4 : CallC P G 17 [bes [kA, kB], Vec.vec [(2, 3)], str ⟨#[107]⟩] [] (.ret (.tup [bes [kA], int 0])) [] := by
  have h := drop_c [kA, kB] [(2, 3)] ⟨#[107]⟩ (by decide) (by decide)
  rw [p4] at h
  exact h
theorem sb_5 : CallC P G 12 [nilS, nilS, bel kZ] [] (.ret (.tup [bes [], int 140])) [] := nil2 (by have h := put_c' [] [] kZ (by decide) (by decide); rw [p5] at h; exact h)
theorem sb_6 : CallC P G 17 [nilS, nilS, str ⟨#[107]⟩] [] (.ret (.tup [bes [], int 0])) [] := nil2 (by have h := drop_c [] [] ⟨#[107]⟩ (by decide) (by decide); rw [p6] at h; exact h)
theorem sb_7 : CallC P G 21 [bes [kA, kB], str ⟨#[107]⟩] [] (.ret (bes [kB, kA])) [] := by
  have h := vals_c [kA, kB] ⟨#[107]⟩ (by decide)
  rw [p7] at h
  exact h
theorem sb_8 : CallC P G 19 [bes [kA, kB]] [] (.ret (strs [⟨#[107]⟩])) [] := keys_c [kA, kB] [⟨#[107]⟩] (by decide) (by decide +kernel) (by rw [p8]) (List.pairwise_singleton _ _)
theorem sb_9 : CallC P G 15 [bes [kA, kA]] [] (.ret (int 140)) [] := by
  have h := check_c [kA, kA] (by decide)
  rw [p9] at h
  exact h
theorem sb_10 : CallC P G 21 [nilS, str ⟨#[107]⟩] [] (.ret (bes [])) [] := by
  have h := vals_c [] ⟨#[107]⟩ (by decide)
  exact h.args rfl fun j hj => by
    have : j < 2 := hj
    match j, this with
    | 0, _ => exact Sub.nil 5
    | 1, _ => exact Sub.refl _
theorem sb_11 : CallC P G 14 [bes [kA, kB], bes [kA, kB]] [] (.ret (bool true)) [] := by have h := rsame_c [kA, kB] [kA, kB] (by decide) (by decide); rw [decide_eq_true rfl] at h; exact h
theorem sb_12 : CallC P G 14 [bes [kA], bes [kA]] [] (.ret (bool true)) [] := by have h := rsame_c [kA] [kA] (by decide) (by decide); rw [decide_eq_true rfl] at h; exact h
theorem sb_13 : CallC P G 14 [bes [kB, kA], bes [kB, kA]] [] (.ret (bool true)) [] := by have h := rsame_c [kB, kA] [kB, kA] (by decide) (by decide); rw [decide_eq_true rfl] at h; exact h
end Go.Bd

/- BINDS, 22: sane, walked. -/
namespace Go.Bd
set_option maxRecDepth 100000
set_option linter.unusedSimpArgs false
set_option linter.unusedVariables false
open Go Go.Am Go.Proofs Go.Seat

theorem sane_w  (h : True) : CallC P G 9 [] [] (AOut.ret (Am.bool true)) [] := by
  have _ := h
  exact callC_of [kc [] (@Go.Bd.bind_c (ByteArray.mk #[107]) (1) (1) (5) (ByteArray.mk #[120])), kc [] (@Go.Bd.bind_c (ByteArray.mk #[107]) (2) (1) (7) (ByteArray.mk #[121])), kc [] (@Go.Bd.sb_1 ), kc [] (@Go.Bd.sb_2 ), kc [] (@Go.Bd.bind_c (ByteArray.mk #[107]) (3) (1) (8) (ByteArray.mk #[122])), kc [] (show CallC P G 12 [AV.sl 5 false [[str (BE.ky kA), int 1, int 1, int 5, str (BE.vl kA)], [str (BE.ky kB), int 2, int 1, int 7, str (BE.vl kB)]], AV.sl 2 true [[int 1, int 1]], AV.agg [str (ByteArray.mk #[107]), int 3, int 1, int 8, str (ByteArray.mk #[122])]] [] (AOut.ret (AV.tup [AV.sl 5 false [[str (BE.ky kB), int 2, int 1, int 7, str (BE.vl kB)], [str (BE.ky kC), int 3, int 1, int 8, str (BE.vl kC)]], int 0])) [] from (CallC.args' (@Go.Bd.sb_3 ) ⟨Sub.refl _, Sub.loose _ _ _, Sub.refl _, trivial⟩)), kc [] (show CallC P G 17 [AV.sl 5 false [[str (BE.ky kA), int 1, int 1, int 5, str (BE.vl kA)], [str (BE.ky kB), int 2, int 1, int 7, str (BE.vl kB)]], AV.sl 2 true [[int 2, int 3]], str (ByteArray.mk #[107])] [] (AOut.ret (AV.tup [AV.sl 5 false [[str (BE.ky kA), int 1, int 1, int 5, str (BE.vl kA)]], int 0])) [] from (CallC.args' (@Go.Bd.sb_4 ) ⟨Sub.refl _, Sub.loose _ _ _, Sub.refl _, trivial⟩)), kc [] (@Go.Bd.sb_5 ), kc [] (@Go.Bd.sb_6 ), kc [] (@Go.Bd.sb_7 ), kc [] (@Go.Bd.sb_8 ), kt (Eq.refl true), kt (Eq.refl true), kc [] (show CallC P G 14 [AV.sl 5 false [[str (BE.ky kA), int 1, int 1, int 5, str (BE.vl kA)], [str (BE.ky kB), int 2, int 1, int 7, str (BE.vl kB)]], AV.sl 5 true [[str (ByteArray.mk #[107]), int 1, int 1, int 5, str (ByteArray.mk #[120])], [str (ByteArray.mk #[107]), int 2, int 1, int 7, str (ByteArray.mk #[121])]]] [] (AOut.ret (Am.bool true)) [] from (CallC.args' (@Go.Bd.sb_11 ) ⟨Sub.refl _, Sub.loose _ _ _, trivial⟩)), kt (Eq.refl true), kt (Eq.refl true), kt (Eq.refl true), ko (Orc.elem [str (BE.ky kB), int 2, int 1, int 7, str (BE.vl kB)]), kp (show (0 : Int) ≤ (0 : Int) ∧ (encs [kB, kC])[Int.toNat 0]? = some [str (BE.ky kB), int 2, int 1, int 7, str (BE.vl kB)] from (⟨by decide, rfl⟩)), kt (Eq.refl true), kt (Eq.refl true), kc [] (show CallC P G 14 [AV.sl 5 false [[str (BE.ky kA), int 1, int 1, int 5, str (BE.vl kA)]], AV.sl 5 true [[str (ByteArray.mk #[107]), int 1, int 1, int 5, str (ByteArray.mk #[120])]]] [] (AOut.ret (Am.bool true)) [] from (CallC.args' (@Go.Bd.sb_12 ) ⟨Sub.refl _, Sub.loose _ _ _, trivial⟩)), kt (Eq.refl true), kt (Eq.refl true), kt (Eq.refl true), kt (Eq.refl true), kc [] (show CallC P G 14 [AV.sl 5 false [[str (BE.ky kB), int 2, int 1, int 7, str (BE.vl kB)], [str (BE.ky kA), int 1, int 1, int 5, str (BE.vl kA)]], AV.sl 5 true [[str (ByteArray.mk #[107]), int 2, int 1, int 7, str (ByteArray.mk #[121])], [str (ByteArray.mk #[107]), int 1, int 1, int 5, str (ByteArray.mk #[120])]]] [] (AOut.ret (Am.bool true)) [] from (CallC.args' (@Go.Bd.sb_13 ) ⟨Sub.refl _, Sub.loose _ _ _, trivial⟩)), kt (Eq.refl true), kt (Eq.refl true), ko (Orc.elem [str (ByteArray.mk #[107])]), kp (show (0 : Int) ≤ (0 : Int) ∧ (sts [ByteArray.mk #[107]])[Int.toNat 0]? = some [str (ByteArray.mk #[107])] from (⟨by decide, rfl⟩)), kt (Eq.refl true), kc [] (@Go.Bd.sb_10 ), kt (Eq.refl true), kc [] (show CallC P G 15 [AV.sl 5 true [[str (ByteArray.mk #[107]), int 1, int 1, int 5, str (ByteArray.mk #[120])], [str (ByteArray.mk #[107]), int 1, int 1, int 5, str (ByteArray.mk #[120])]]] [] (AOut.ret (int 140)) [] from (CallC.args' (@Go.Bd.sb_9 ) ⟨Sub.loose _ _ _, trivial⟩))] (by kernel_rfl)

end Go.Bd

/- BINDS, 40: the statements' arguments as data. -/
namespace Go.Bd
set_option maxRecDepth 100000
set_option linter.unusedSimpArgs false
set_option linter.unusedVariables false
open Go Go.Am Go.Proofs Go.Seat

theorem cz3 : Try.prog.cellsOf 3 = 1 := by kernel_rfl
theorem cz9 : Try.prog.cellsOf 9 = 1 := by kernel_rfl
theorem cz22 : Try.prog.cellsOf 22 = 1 := by kernel_rfl
theorem cz25 : Try.prog.cellsOf 25 = 2 := by kernel_rfl
theorem cz27 : Try.prog.cellsOf 27 = 5 := by kernel_rfl
noncomputable def cInt : Cod Try.prog 3 Int := Cod.int Try.underlying3 cz3
noncomputable def cStr : Cod Try.prog 9 ByteArray := Cod.str Try.underlying9 cz9
noncomputable def cDot : Cod Try.prog 25 (Int × Int) := Cod.struct Try.underlying25 (by kernel_rfl) (FCod.cons cInt rfl (FCod.cons cInt (by kernel_rfl) FCod.nil)) (fun a => (a.1, a.2.1)) (fun a => [Am.int a.1, Am.int a.2]) (fun _ => rfl) (fun _ => cz25.symm)
abbrev AB := ByteArray × (Int × Int) × Int × ByteArray × Unit
noncomputable def cBE : Cod Try.prog 27 BE := Cod.struct Try.underlying27 (by kernel_rfl) (FCod.cons cStr rfl (FCod.cons cDot (by kernel_rfl) (FCod.cons cInt (by kernel_rfl) (FCod.cons cStr (by kernel_rfl) FCod.nil))))
  (fun a : AB => ⟨a.1, a.2.1.1, a.2.1.2, a.2.2.1, a.2.2.2.1⟩) enc (fun a : AB => rfl) (fun _ => cz27.symm)
noncomputable def cBinds : Cod Try.prog 22 (List BE) := Cod.slice Try.underlying22 cz22 (by rw [cz27]; decide) cBE
theorem cBinds_enc (v : List BE) : cBinds.enc v = [bes v] := by
  show [AV.sl (Try.prog.cellsOf 27) false (v.map enc)] = [AV.sl 5 false (v.map enc)]
  rw [cz27]
theorem reads_str {H : Type} {enc : TypeId × Value → H} {W : World} {base : Nat} {v : Value} {d : DataW H} {ps : List MemPlace} (hv : Value.okWide Try.prog W .any base 9 v) (h : DataW.Trod enc Try.prog W 0 (fun _ => true) true 9 v d ps) : ∃ k : ByteArray, True ∧ Rep (view0 W) (str k) v := by
  obtain ⟨a, h1, h2⟩ := cStr.one (mk := fun k => str k) (by kernel_rfl) hv h (fun _ => rfl)
  exact ⟨a, trivial, h2⟩
theorem reads_binds {H : Type} {enc : TypeId × Value → H} {W : World} {base : Nat} {v : Value} {d : DataW H} {ps : List MemPlace} (hv : Value.okWide Try.prog W .any base 22 v) (h : DataW.Trod enc Try.prog W 0 (fun _ => true) true 22 v d ps) : ∃ l : List BE, l.length ≤ 9223372036854775807 ∧ Rep (view0 W) (bes l) v := by
  obtain ⟨a, h1, h2⟩ := cBinds.one (by kernel_rfl) hv h cBinds_enc
  exact ⟨a, h1.1, h2⟩
end Go.Bd

/- BINDS, 24: plain: Values and Keys of both packages are one. -/
namespace Go.Bd
set_option maxRecDepth 100000
set_option linter.unusedSimpArgs false
set_option linter.unusedVariables false
open Go Go.Am Go.Proofs Go.Seat

theorem more_iff {a b : BE} : moreB a b = true ↔ a.tm > b.tm ∨ (a.tm = b.tm ∧ (b.dv < a.dv ∨ (b.dv = a.dv ∧ b.sq < a.sq))) := by
  simp [moreB, ear_iff]
theorem more_iff' {a b : BE} : moreB a b = false ↔ ¬ (a.tm > b.tm ∨ (a.tm = b.tm ∧ (b.dv < a.dv ∨ (b.dv = a.dv ∧ b.sq < a.sq)))) := by
  rw [← more_iff, Bool.not_eq_true]
/-- None counts more than one ahead of it. -/
abbrev Desc (l : List BE) : Prop := l.Pairwise fun a b => moreB b a = false
theorem more_mono {e a b : BE} (h1 : moreB e a = true) (h2 : moreB b a = false) : moreB e b = true := by
  rw [more_iff] at *; rw [more_iff'] at h2; omega
theorem more_asymm {a b : BE} (h1 : moreB a b = true) : moreB b a = false := by
  rw [more_iff] at h1; rw [more_iff']; omega

theorem mv_pass : ∀ (R S : List BE) (e : BE), (∀ b ∈ R, moreB e b = true) → mv (R ++ S) e = mv S e ++ R.reverse
  | [], S, e, _ => by simp
  | y :: R, S, e, h => by
    rw [List.cons_append, mv, if_pos (h y (List.mem_cons_self ..)), mv_pass R S e fun b hb => h b (List.mem_cons_of_mem _ hb)]
    simp
theorem mv_stop (A : List BE) (e : BE) (h : ∀ b ∈ A, moreB e b = false) : mv A.reverse e = A ++ [e] := by
  rcases List.eq_nil_or_concat A with rfl | ⟨t, y, rfl⟩
  · rfl
  · rw [List.concat_eq_append] at h ⊢
    rw [List.reverse_append, List.reverse_singleton, List.singleton_append, mv, if_neg (by rw [h y (by simp)]; decide)]
    simp
theorem split_desc {l : List BE} (h : Desc l) (e : BE) : (∀ b ∈ l.take (plc e l), moreB e b = false) ∧ ∀ b ∈ l.drop (plc e l), moreB e b = true := by
  induction l with
  | nil => simp
  | cons a t ih =>
    rw [Desc, List.pairwise_cons] at h
    obtain ⟨i1, i2⟩ := ih h.2
    cases hm : moreB e a with
    | true =>
      have : plc e (a :: t) = 0 := by simp [plc, hm]
      rw [this]
      refine ⟨by simp, fun b hb => ?_⟩
      rcases List.mem_cons.1 hb with rfl | hb
      · exact hm
      · exact more_mono hm (h.1 b hb)
    | false =>
      have : plc e (a :: t) = plc e t + 1 := by simp [plc, hm]
      rw [this, List.take_succ_cons, List.drop_succ_cons]
      refine ⟨fun b hb => ?_, i2⟩
      rcases List.mem_cons.1 hb with rfl | hb
      · exact hm
      · exact i1 b hb
theorem mv_ins {l : List BE} (h : Desc l) (e : BE) : mv l.reverse e = insM e l := by
  obtain ⟨h1, h2⟩ := split_desc h e
  conv => lhs; rw [← List.take_append_drop (plc e l) l, List.reverse_append]
  rw [mv_pass _ _ _ (fun b hb => h2 b (by simpa using hb)), mv_stop _ _ h1, List.reverse_reverse]
  rfl
theorem insM_perm (e : BE) (l : List BE) : (insM e l).Perm (e :: l) := by
  unfold insM
  rw [List.append_assoc, List.singleton_append]
  refine List.perm_middle.trans ?_
  rw [List.take_append_drop]
theorem insM_desc {l : List BE} (h : Desc l) (e : BE) : Desc (insM e l) := by
  obtain ⟨h1, h2⟩ := split_desc h e
  unfold insM
  rw [Desc, List.append_assoc, List.singleton_append, List.pairwise_append, List.pairwise_cons]
  refine ⟨h.sublist (List.take_sublist _ _), ⟨fun b hb => more_asymm (h2 b hb), h.sublist (List.drop_sublist _ _)⟩, fun a ha b hb => ?_⟩
  rcases List.mem_cons.1 hb with rfl | hb
  · exact h1 a ha
  · have : Desc (l.take (plc e l) ++ l.drop (plc e l)) := by rw [List.take_append_drop]; exact h
    exact (List.pairwise_append.1 this).2.2 a ha b hb
theorem srt_val (k : ByteArray) : ∀ (v l : List BE), Desc l → srt l (fil k v) = valR k l v ∧ Desc (valR k l v) ∧ (valR k l v).Perm (l ++ fil k v)
  | [], l, h => ⟨rfl, h, by simp [valR, fil]⟩
  | b :: t, l, h => by
    rw [fil_cons, valR]
    by_cases hk : b.ky = k
    · rw [if_pos hk, if_pos hk, List.singleton_append, srt, mv_ins h]
      obtain ⟨i1, i2, i3⟩ := srt_val k t (insM b l) (insM_desc h b)
      exact ⟨i1, i2, i3.trans (((insM_perm b l).append_right _).trans (List.perm_middle (l₁ := l) (a := b) (l₂ := fil k t)).symm)⟩
    · rw [if_neg hk, if_neg hk, List.nil_append]
      exact srt_val k t l h
theorem vals_eq (k : ByteArray) (v : List BE) : srt [] (fil k v) = valR k [] v := (srt_val k v [] List.Pairwise.nil).1
theorem vals_perm (k : ByteArray) (v : List BE) : (srt [] (fil k v)).Perm (fil k v) := by rw [vals_eq]; exact (srt_val k v [] List.Pairwise.nil).2.2

/-! Keys -/
abbrev Asc (l : List ByteArray) : Prop := l.Pairwise fun a b => ltS a b = true
theorem split_asc {l : List ByteArray} (h : Asc l) (k : ByteArray) : (∀ b ∈ l.take (plcK k l), ltS b k = true) ∧ ∀ b ∈ l.drop (plcK k l), b = k ∨ ltS k b = true := by
  induction l with
  | nil => simp
  | cons a t ih =>
    rw [Asc, List.pairwise_cons] at h
    obtain ⟨i1, i2⟩ := ih h.2
    cases hm : ltS a k with
    | true =>
      have : plcK k (a :: t) = plcK k t + 1 := by simp [plcK, hm]
      rw [this, List.take_succ_cons, List.drop_succ_cons]
      refine ⟨fun b hb => ?_, i2⟩
      rcases List.mem_cons.1 hb with rfl | hb
      · exact hm
      · exact i1 b hb
    | false =>
      have : plcK k (a :: t) = 0 := by simp [plcK, hm]
      rw [this]
      have ha : a = k ∨ ltS k a = true := by
        rcases ltS_tri a k with g | g | g
        · rw [hm] at g; cases g
        · exact .inl g
        · exact .inr g
      refine ⟨by simp, fun b hb => ?_⟩
      rcases List.mem_cons.1 hb with rfl | hb
      · exact ha
      · have hz := h.1 b hb
        rcases ha with rfl | ha
        · exact .inr hz
        · exact .inr (ltS_trans ha hz)
theorem insK_asc {l : List ByteArray} (h : Asc l) (k : ByteArray) : Asc (insK k l) ∧ ∀ a, a ∈ insK k l ↔ a ∈ l ∨ a = k := by
  obtain ⟨h1, h2⟩ := split_asc h k
  unfold insK
  by_cases he : l[plcK k l]? = some k
  · rw [if_pos he]
    exact ⟨h, fun a => ⟨.inl, fun h => h.elim id fun e => e ▸ List.mem_of_getElem? he⟩⟩
  · rw [if_neg he]
    have h3 : ∀ b ∈ l.drop (plcK k l), ltS k b = true := fun b hb => by
      rcases h2 b hb with rfl | g
      · exfalso
        have hl : Asc (l.drop (plcK b l)) := h.sublist (List.drop_sublist _ _)
        cases hd : l.drop (plcK b l) with
        | nil => rw [hd] at hb; cases hb
        | cons a t =>
          have e : l[plcK b l]? = some a := by
            have := congrArg (fun x => x[0]?) hd
            simpa [List.getElem?_drop] using this
          rw [hd] at hb hl
          rcases List.mem_cons.1 hb with rfl | hb
          · exact he e
          · rw [Asc, List.pairwise_cons] at hl
            have g1 := hl.1 b hb
            rcases h2 a (by rw [hd]; exact List.mem_cons_self ..) with rfl | g2
            · exact he e
            · rw [ltS_asymm g1] at g2; cases g2
      · exact g
    refine ⟨?_, fun a => ?_⟩
    · rw [Asc, List.append_assoc, List.singleton_append, List.pairwise_append, List.pairwise_cons]
      refine ⟨h.sublist (List.take_sublist _ _), ⟨h3, h.sublist (List.drop_sublist _ _)⟩, fun a ha b hb => ?_⟩
      rcases List.mem_cons.1 hb with rfl | hb
      · exact h1 a ha
      · exact ltS_trans (h1 a ha) (h3 b hb)
    · have : a ∈ l ↔ a ∈ l.take (plcK k l) ∨ a ∈ l.drop (plcK k l) := by rw [← List.mem_append, List.take_append_drop]
      rw [this, List.append_assoc, List.mem_append, List.singleton_append, List.mem_cons]
      constructor
      · rintro (g | g | g)
        · exact .inl (.inl g)
        · exact .inr g
        · exact .inl (.inr g)
      · rintro ((g | g) | g)
        · exact .inl g
        · exact .inr (.inr g)
        · exact .inr (.inl g)
theorem keyR_asc : ∀ (v : List BE) {l : List ByteArray}, Asc l → Asc (keyR l v) ∧ ∀ a, a ∈ keyR l v ↔ a ∈ l ∨ ∃ b ∈ v, b.ky = a
  | [], l, h => ⟨h, by simp [keyR]⟩
  | b :: t, l, h => by
    obtain ⟨h1, h2⟩ := insK_asc h b.ky
    obtain ⟨i1, i2⟩ := keyR_asc t h1
    refine ⟨i1, fun a => ?_⟩
    rw [keyR, i2, h2]
    simp only [List.mem_cons, exists_eq_or_imp]
    constructor
    · rintro ((g | g) | g)
      · exact .inl g
      · exact .inr (.inl g.symm)
      · exact .inr (.inr g)
    · rintro (g | g | g)
      · exact .inl (.inl g)
      · exact .inl (.inr g.symm)
      · exact .inr g
theorem asc_nodup {l : List ByteArray} (h : Asc l) : l.Nodup := by
  rw [List.nodup_iff_pairwise_ne]
  exact h.imp fun {a b} g e => by rw [e, ltS_irrefl] at g; cases g
theorem keys_perm (v : List BE) : (keyR [] v).Perm (keysOf [] v) := by
  obtain ⟨h1, h2⟩ := keyR_asc v (l := []) List.Pairwise.nil
  exact (List.perm_ext_iff_of_nodup (asc_nodup h1) (keysOf_nodup v List.nodup_nil)).2 fun a => by rw [h2, keysOf_mem]
theorem keys_ok (v : List BE) (hv : v.length ≤ 1000) (hk : ∀ b ∈ v, b.ky.size ≤ maxLen) : CallC P G 19 [bes v] [] (.ret (strs (keyR [] v))) [] := keys_c v _ hv hk (keys_perm v) (keyR_asc v List.Pairwise.nil).1
theorem keyR_len (v : List BE) : (keyR [] v).length ≤ v.length := by
  rw [(keys_perm v).length_eq]
  have := keysOf_len v []
  simpa using this
end Go.Bd

/- BINDS, 23: the laws PutSpec and DropSpec. -/
namespace Go.Bd
set_option maxRecDepth 100000
set_option linter.unusedSimpArgs false
set_option linter.unusedVariables false
open Go Go.Am Go.Proofs Go.Seat

theorem sane_c : CallC P G 9 [] [] (.ret (bool true)) [] := sane_w trivial

abbrev Len (l : List BE) : Prop := l.length ≤ 9223372036854775807
theorem few_l {cs : List (List Vec.D)} {l : List BE} (h : (shortB cs && fewB l) = true) : l.length ≤ 20 ∧ (∀ b ∈ l, smallB b = true) ∧ ∀ c ∈ cs, c.length ≤ 10 := by
  rw [Bool.and_eq_true] at h
  obtain ⟨h1, h2⟩ := h
  unfold fewB at h2
  rw [Bool.and_eq_true, decide_eq_true_iff] at h2
  refine ⟨by omega, fun b hb => List.all_eq_true.1 h2.1 b hb, fun c hc => ?_⟩
  have := List.all_eq_true.1 h1 c hc
  rw [decide_eq_true_iff] at this
  omega
theorem same_self (x : List BE) (h : x.length ≤ 1000000000) : CallC P G 14 [bes x, bes x] [] (.ret (bool true)) [] := by
  have h := rsame_c x x h h
  rw [decide_eq_true rfl] at h
  exact h
/-! DropSpec -/
end Go.Bd

/- BINDS, 25: the law ValuesSpec. -/
namespace Go.Bd
set_option maxRecDepth 100000
set_option linter.unusedSimpArgs false
set_option linter.unusedVariables false
open Go Go.Am Go.Proofs Go.Seat

def vK (l : List BE) (k : ByteArray) (ks : List ByteArray) (i : Nat) : St := { env := slots 65 [(0, bes l), (1, str k), (5, strs ks), (6, strs ks), (27, strs ks), (28, int ks.length), (29, int i)], H := [] }
def vX (l : List BE) (k : ByteArray) : St := { env := slots 65 [(0, bes l), (1, str k)], H := [] }

theorem vK_w (l : List BE) (k x : ByteArray) (ks : List ByteArray) (i : Nat) (v : ByteArray → List BE) (hs : ks.length ≤ 1000) (hi : (i : Int) < (ks.length : Int)) (hx : ks[i]? = some x) (hq : (ByteArray.toList x == ByteArray.toList x) = true) (h1 : ∀ k, CallC P G 21 [bes l, str k] [] (.ret (bes (v k))) []) (h2 : ∀ k, CallC P G 22 [bes l, str k] [] (.ret (bes (v k))) []) (h3 : ∀ k, CallC P G 14 [bes (v k), bes (v k)] [] (.ret (bool true)) []) (ex : AEx) (s : St) (h : RunL P G none 0 (loopAt P 5 0) (St.mk (slots 65 [(0, AV.sl 5 false (encs l)), (1, str k), (5, AV.sl 1 false (sts ks)), (6, AV.sl 1 false (sts ks)), (27, AV.sl 1 false (sts ks)), (28, int (↑(List.length ks) : Int)), (29, int (↑(i + 1) : Int))]) [] []) ex s) : RunL P G none 0 (loopAt P 5 0) (vK l k ks i) ex s := by
  have hz1 : (0 : Int) ≤ (↑i : Int) ∧ (sts ks)[Int.toNat (↑i : Int)]? = some (st1 x) := (el_nat hx)
  exact loop_next [kt (show decide ((↑i : Int) < (↑(List.length ks) : Int)) = true from (decide_eq_true (by omega))), ko (Orc.elem (st1 x)), ko (Orc.elem (st1 x)), kp hz1, kp hz1, kf (show (!ByteArray.toList x == ByteArray.toList x) = false from (congrArg Bool.not (hq))), ko (Orc.elem (st1 x)), kp hz1, kc [] (@h1 (x)), ko (Orc.elem (st1 x)), kp hz1, kc [] (@h2 (x)), kc [] (@h3 (x)), kf (Eq.refl false), kv 57 (show Am.Sub (int (IntKind.wrap IntKind.i64 ((↑i : Int) + 1))) (int (↑(i + 1) : Int)) from (Sub.of_wrap (by omega) (by omega) (by omega)))] (others 65 [0, 1, 5, 6, 27, 28, 29]) 0 h (by kernel_rfl)

theorem vK_e (l : List BE) (k : ByteArray) (ks : List ByteArray) (i : Nat) (hi : ¬ (i : Int) < (ks.length : Int)) (h : True) : RunL P G none 0 (loopAt P 5 0) (vK l k ks i) (AEx.exit 0) (vX l k) := by
  have _ := h
  exact loop_exit [kf (show decide ((↑i : Int) < (↑(List.length ks) : Int)) = false from (decide_eq_false (by omega)))] (others 65 [0, 1]) 0 (by kernel_rfl)

theorem vs_0 (l : List BE) (k : ByteArray) (hf : CallC P G 10 [bes l, nilS] [] (.ret (bool false)) []) (h : True) : CallC P G 5 [bes l, str k] [] (AOut.ret (Am.bool true)) [] := by
  have _ := h
  exact callC_of [kc [] (@Go.Bd.sane_c ), kf (Eq.refl false), kc [] (@hf ), kt (Eq.refl true), kt (Eq.refl true)] (by kernel_rfl)

theorem vs_1 (l : List BE) (k : ByteArray) (hf : CallC P G 10 [bes l, nilS] [] (.ret (bool true)) []) (hk : (k.size : Int) > 100) (h : True) : CallC P G 5 [bes l, str k] [] (AOut.ret (Am.bool true)) [] := by
  have _ := h
  exact callC_of [kc [] (@Go.Bd.sane_c ), kf (Eq.refl false), kc [] (@hf ), kf (Eq.refl false), kt (show decide ((↑(ByteArray.size k) : Int) > (100 : Int)) = true from (decide_eq_true (by omega)))] (by kernel_rfl)

theorem vs_2 (l : List BE) (k : ByteArray) (ks : List ByteArray) (v : ByteArray → List BE) (hf : CallC P G 10 [bes l, nilS] [] (.ret (bool true)) []) (hk : (k.size : Int) ≤ 100) (g1 : CallC P G 19 [bes l] [] (.ret (strs ks)) []) (g2 : CallC P G 20 [bes l] [] (.ret (strs ks)) []) (hL : RunL P G none 0 (loopAt P 5 0) (vK l k ks 0) (.exit 0) (vX l k)) (h1 : ∀ k, CallC P G 21 [bes l, str k] [] (.ret (bes (v k))) []) (h2 : ∀ k, CallC P G 22 [bes l, str k] [] (.ret (bes (v k))) []) (h3 : ∀ k, CallC P G 14 [bes (v k), bes (v k)] [] (.ret (bool true)) []) (h : True) : CallC P G 5 [bes l, str k] [] (AOut.ret (Am.bool true)) [] := by
  have hz5 : Am.Sub (int (↑(List.length (sts ks)) : Int)) (int (↑(List.length ks) : Int)) := (Sub.of_eq (by simp only [Go.Bd.sts_length]))
  have _ := h
  exact callC_of [kc [] (@Go.Bd.sane_c ), kf (Eq.refl false), kc [] (@hf ), kf (Eq.refl false), kf (show decide ((↑(ByteArray.size k) : Int) > (100 : Int)) = false from (decide_eq_false (by omega))), kc [] (@g1 ), kc [] (@g2 ), kv 23 hz5, kv 25 hz5, kf (show ((↑(List.length ks) : Int) != (↑(List.length ks) : Int)) = false from (congrArg Bool.not (decide_eq_true (by omega)))), kv 28 hz5, kl [2, 3, 4, 7, 8, 9, 10, 11, 12, 13, 14, 15, 16, 17, 18, 19, 20, 21, 22, 23, 24, 25, 26, 30, 31, 32, 33, 34, 35, 36, 37, 38, 39, 40, 41, 42, 43, 44, 45, 46, 47, 48, 49, 50, 51, 52, 53, 54, 55, 56, 57, 58, 59, 60, 61, 62, 63, 64] 0 (@hL ), kc [] (@h1 (k)), kc [] (@h2 (k)), kc [] (@h3 (k))] (by kernel_rfl)

theorem small_max {l : List BE} (h : ∀ b ∈ l, smallB b = true) : ∀ b ∈ l, b.ky.size ≤ maxLen := fun b hb => by
  have := h b hb
  simp only [smallB, Bool.and_eq_true, decide_eq_true_eq] at this
  unfold maxLen
  omega
theorem vK_loop (l : List BE) (k : ByteArray) (ks : List ByteArray) (v : ByteArray → List BE) (hs : ks.length ≤ 1000) (h1 : ∀ k, CallC P G 21 [bes l, str k] [] (.ret (bes (v k))) []) (h2 : ∀ k, CallC P G 22 [bes l, str k] [] (.ret (bes (v k))) []) (h3 : ∀ k, CallC P G 14 [bes (v k), bes (v k)] [] (.ret (bool true)) []) : ∀ n i, ks.length - i = n → i ≤ ks.length → RunL P G none 0 (loopAt P 5 0) (vK l k ks i) (.exit 0) (vX l k) := by
  intro n
  induction n with
  | zero => intro i hn hi; exact vK_e l k ks i (by omega) trivial
  | succ n ih =>
    intro i hn hi
    have hlt : i < ks.length := by omega
    exact vK_w l k _ ks i v hs (by omega) (List.getElem?_eq_getElem hlt) (by rw [str_eq]; exact decide_eq_true rfl) h1 h2 h3 _ _ (ih (i + 1) (by omega) (by omega))
theorem spec_values (l : List BE) (k : ByteArray) (hl : Len l) : CallC P G 5 [bes l, str k] [] (.ret (bool true)) [] := by
  have hf := few0_c l hl
  cases hs : fewB l with
  | false => rw [hs] at hf; exact vs_0 l k hf trivial
  | true =>
    rw [hs] at hf
    obtain ⟨h20, hsm, _⟩ := few_l (cs := []) (l := l) (by rw [hs]; rfl)
    by_cases hk : (k.size : Int) > 100
    · exact vs_1 l k hf hk trivial
    · have hlen : ∀ k, (srt [] (fil k l)).length ≤ 20 := fun k => by
        have := fil_len k l
        rw [(vals_perm k l).length_eq]; omega
      have h1 : ∀ k, CallC P G 21 [bes l, str k] [] (.ret (bes (srt [] (fil k l)))) [] := fun k => vals_c l k h20
      have h2 : ∀ k, CallC P G 22 [bes l, str k] [] (.ret (bes (srt [] (fil k l)))) [] := fun k => by rw [vals_eq]; exact rvals_c l k (by omega)
      have h3 : ∀ k, CallC P G 14 [bes (srt [] (fil k l)), bes (srt [] (fil k l))] [] (.ret (bool true)) [] := fun k => same_self _ (by have := hlen k; omega)
      have hkl := keyR_len l
      exact vs_2 l k (keyR [] l) (fun k => srt [] (fil k l)) hf (by omega) (keys_ok l (by omega) (small_max hsm)) (rkeys_c l (by omega)) (vK_loop l k _ _ (by omega) h1 h2 h3 _ 0 rfl (by omega)) h1 h2 h3 trivial

end Go.Bd

/- BINDS, 26: plain: what is put and dropped in either order. -/
namespace Go.Bd
set_option maxRecDepth 100000
set_option linter.unusedSimpArgs false
set_option linter.unusedVariables false
open Go Go.Am Go.Proofs Go.Seat

end Go.Bd

/- BINDS, 27: the law Commute. -/
namespace Go.Bd
set_option maxRecDepth 100000
set_option linter.unusedSimpArgs false
set_option linter.unusedVariables false
open Go Go.Am Go.Proofs Go.Seat

end Go.Bd

/- BINDS, 28: the law Commute, put together. -/
namespace Go.Bd
set_option maxRecDepth 100000
set_option linter.unusedSimpArgs false
set_option linter.unusedVariables false
open Go Go.Am Go.Proofs Go.Seat

end Go.Bd

/- BINDS, 29: the law Wins. -/
namespace Go.Bd
set_option maxRecDepth 100000
set_option linter.unusedSimpArgs false
set_option linter.unusedVariables false
open Go Go.Am Go.Proofs Go.Seat

end Go.Bd

/- BINDS, 30: the law Wins, put together. -/
namespace Go.Bd
set_option maxRecDepth 100000
set_option linter.unusedSimpArgs false
set_option linter.unusedVariables false
open Go Go.Am Go.Proofs Go.Seat

end Go.Bd

/- BINDS, 42: the laws ValuesSpec, Commute and Wins, as they are closed. -/
namespace Go.Bd
set_option maxRecDepth 100000
set_option linter.unusedSimpArgs false
set_option linter.unusedVariables false
open Go Go.Am Go.Proofs Go.Seat

theorem values_h (l : List BE) (k : ByteArray) (hl : Len l) (_ : True) : CallC P G 5 [bes l, str k] [] (.ret (Am.bool true)) [] := spec_values l k hl
end Go.Bd
