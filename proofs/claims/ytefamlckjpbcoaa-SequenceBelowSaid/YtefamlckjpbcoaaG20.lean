import Derived.Test.YtefamlckjpbcoaaG19
import Derived.Below
import Derived.KernelRfl
set_option maxRecDepth 100000
set_option linter.unusedSimpArgs false
set_option linter.unusedVariables false
/- THE ABSTRACT MACHINE, 37: the library's contracts that say how the world stands below a block, as contracts here. -/
namespace Go.Am
open Go
end Go.Am

/- THE ABSTRACT MACHINE, 38: a range over a data map: its step, its loop. -/
namespace Go.Am
open Go Go.ChangeMaps
section
variable {P : Program} {G : Nat → Option (List AV)} {V : View}

theorem getD_some {α : Type} {l : List α} {i : Nat} (h : i < l.length) (d : α) : l.getD i d = l[i] := by
  rw [List.getD_eq_getElem?_getD, List.getElem?_eq_getElem h]; rfl

theorem set_at {w : World} {r b : Nat} {o : Obj} (h : b ≠ r) : (setBlock w r o).heap[b]? = w.heap[b]? := by
  show (w.heap.setIfInBounds r o)[b]? = _
  rw [Array.getElem?_setIfInBounds_ne (Ne.symm h)]
theorem next_sound (hG : HeapRep G V) {id : Nat} {cur : Option (Value × AV)} {left : List (Value × AV)} (hH : V.H[id]? = some (.iter cur left)) (ty : TypeId) :
    (left = [] ∧ (Instr.next (.pointer (some ⟨V.ρ id, 0, none⟩)) false ty).run P V.w = .ok (.tuple #[.bool false]) V.w) ∨
    ∃ (e : Value × AV) (left' : List (Value × AV)) (v : Value) (V' : View), left.Perm (e :: left') ∧ (Instr.next (.pointer (some ⟨V.ρ id, 0, none⟩)) false ty).run P V.w = .ok (.tuple #[.bool true, e.1, v]) V'.w ∧
      PRep V'.w V'.M e.2 v ∧ V'.H = V.H.set id (.iter (some e) left') ∧ V'.ρ = V.ρ ∧ Step V V' ∧ HeapRep G V' := by
  obtain ⟨bm, since, seen, c0, ents, clock, es, idx, h1, k⟩ := hG.obj id _ hH
  have hlen : ents.length = es.length := by simpa using congrArg List.length k.key
  rcases run_next_at (P := P) V.w ty (V.ρ id) bm since c0 seen ents.toArray clock h1 k.map (by simpa using k.old) k.sn with ⟨h0, hrun⟩ | ⟨en, hen, w1, hw1, hrun⟩
  · left
    refine ⟨?_, hrun⟩
    have hidx : idx = [] := by
      cases hi : idx with
      | nil => rfl
      | cons i t =>
        exfalso
        obtain ⟨hl, hs⟩ := (k.ix i).1 (by rw [hi]; exact List.mem_cons_self)
        have : ents.getD i default ∈ (leftOf ents.toArray seen).toList := by
          unfold leftOf
          rw [Array.toList_filter]
          exact List.mem_filter.2 ⟨by rw [getD_some hl]; exact List.getElem_mem hl, by rw [hs]; rfl⟩
        have h0' : (leftOf ents.toArray seen).toList = [] := List.eq_nil_of_length_eq_zero (by simpa using h0)
        rw [h0'] at this
        cases this
    have := k.lf
    rw [hidx] at this
    exact this.nil_eq.symm
  · right
    have hen' : en ∈ ents ∧ seen.contains en.born = false := by
      unfold leftOf at hen
      rw [Array.toList_filter] at hen
      obtain ⟨a, b⟩ := List.mem_filter.1 hen
      exact ⟨a, by simpa using b⟩
    obtain ⟨i, hi, hie⟩ := List.getElem_of_mem hen'.1
    have hid : ents.getD i default = en := by rw [getD_some hi]; exact hie
    have himem : i ∈ idx := (k.ix i).2 ⟨hi, by rw [hid]; exact hen'.2⟩
    have hie' : i < es.length := by omega
    let e := es.getD i (undef, .dead)
    have hkey : en.key = e.1 := by
      have := congrArg (fun l => l[i]?) k.key
      simp only [List.getElem?_map, List.getElem?_eq_getElem hi, List.getElem?_eq_getElem hie', Option.map_some, Option.some.injEq] at this
      show en.key = (es.getD i (undef, .dead)).1
      rw [getD_some hie', ← hie]; exact this
    let o' : Obj := .mapIter (some bm) since (seen.push en.born) clock
    have hw1h : w1.heap = V.w.heap := by rcases hw1 with rfl | rfl <;> rfl
    have hlt := hG.lt id (List.getElem?_eq_some_iff.1 hH).1
    have hbr : bm ≠ V.ρ id := fun e => k.data (e ▸ hG.mutb id _ hH rfl)
    have hsame : ∀ b, b ≠ V.ρ id → (setBlock w1 (V.ρ id) o').heap[b]? = V.w.heap[b]? := fun b hb => by rw [set_at hb, hw1h]
    obtain ⟨V', v1, v2, v3, v4, v5⟩ := step_one (obj' := .iter (some e) ((idx.erase i).map fun i => es.getD i (undef, .dead))) hG hH rfl (fun V' h er => by unfold ObjStep; rw [hH, h]; exact er) (w' := setBlock w1 (V.ρ id) o')
      hsame (by show (w1.heap.setIfInBounds _ _).size = _; rw [Array.size_setIfInBounds, hw1h]) (by rcases hw1 with rfl | rfl <;> rfl) (by rcases hw1 with rfl | rfl <;> rfl) (by rcases hw1 with rfl | rfl <;> rfl)
      (fun V' hw hst => ⟨bm, since, seen.push en.born, clock, ents, clock, es, idx.erase i, by rw [hw]; show (w1.heap.setIfInBounds _ _)[_]? = _; rw [Array.getElem?_setIfInBounds_self_of_lt (by rw [hw1h]; exact hlt)],
        have kk := hst.data bm (Array.getElem?_eq_some_iff.1 k.map).1 k.data
        { data := kk.2
          map := kk.1.trans k.map
          key := k.key
          born := k.born
          old := k.old
          sn := k.sc
          sc := k.sc
          val := fun j hj => (k.val j hj).stepV hst
          nd := k.nd.erase i
          ix := fun j => by
            rw [k.nd.mem_erase_iff, k.ix j]
            constructor
            · rintro ⟨hji, hj, hs⟩
              refine ⟨hj, ?_⟩
              rw [Array.contains_push, hs, Bool.false_or, beq_eq_false_iff_ne]
              intro eb
              apply hji
              have hb := k.born
              rw [List.nodup_iff_pairwise_ne, List.pairwise_iff_getElem] at hb
              have e1 : (ents.map (·.born))[j]'(by simpa using hj) = (ents.map (·.born))[i]'(by simpa using hi) := by
                rw [List.getElem_map, List.getElem_map]
                rw [getD_some hj] at eb
                rw [hie]; exact eb
              rcases Nat.lt_trichotomy j i with h | h | h
              · exact absurd e1 (hb j i (by simpa using hj) (by simpa using hi) h)
              · exact h
              · exact absurd e1.symm (hb i j (by simpa using hi) (by simpa using hj) h)
            · rintro ⟨hj, hs⟩
              rw [Array.contains_push, Bool.or_eq_false_iff, beq_eq_false_iff_ne] at hs
              exact ⟨fun e => hs.2 (by rw [e, hid]), hj, hs.1⟩
          lf := .refl _
          cu := fun e0 he => by
            cases he
            exact ⟨rfl, i, seen, hi, by rw [hid], rfl⟩ }⟩)
      (by rcases hw1 with rfl | rfl
          · exact Nat.le_refl _
          · exact Nat.le_succ _)
    refine ⟨e, _, en.val, V', ?_, ?_, ?_, v2, v3, v4, v5⟩
    · have p1 : (idx.map fun i => es.getD i (undef, .dead)).Perm ((i :: idx.erase i).map fun i => es.getD i (undef, .dead)) := (List.perm_cons_erase himem).map _
      exact k.lf.symm.trans p1
    · rw [hrun, v1, hkey]
    · have hv := (k.val i hie').stepV v4
      have e2 : atE es i = e.2 := by
        show (es.getD i (undef, .dead)).2 = _; rfl
      have e3 : atV ents i = en.val := by
        show (ents.getD i default).val = _; rw [hid]
      rw [e2, e3] at hv
      exact hv

theorem RunL.iter {r : Option Nat} {n0 m0 ta it id : Nat} {ops : Array Oper} {os : List Oper} {o1 : Oper} {rest : Code} {ex : AEx} {Sg : Type} (S : Sg → St) (left : Sg → List (Value × AV)) (X : St)
    (hops : ops.toList = o1 :: os) (hop : o1.op = .next (.tmp it) false) (hgd : o1.guard = none) (hdst : o1.dst = some ta)
    (hit : ∀ σ, (S σ).env.getD it .dead = .ptr id 0) (hob : ∀ σ, ∃ cur, (S σ).H[id]? = some (.iter cur (left σ)))
    (round : ∀ σ e left', (left σ).Perm (e :: left') → ∃ σ' E1, left σ' = left' ∧
      runD P G r ops 1 os (putA (S σ).env (some ta) (.tup [.lit (.bool true), .lit e.1, e.2])) ((S σ).H.set id (.iter (some e) left')) (S σ).defs [] = some (.normal, E1, (S σ).H.set id (.iter (some e) left'), (S σ).defs, [], []) ∧
      PieceC P G r n0 rest ⟨E1, (S σ).H.set id (.iter (some e) left'), (S σ).defs⟩ (S σ'))
    (done : ∀ σ, left σ = [] → ∃ E1, runD P G r ops 1 os (putA (S σ).env (some ta) (.tup [.lit (.bool false)])) (S σ).H (S σ).defs [] = some (.normal, E1, (S σ).H, (S σ).defs, [], []) ∧ RunC P G r n0 rest ⟨E1, (S σ).H, (S σ).defs⟩ ex X) (hex : ex ≠ .normal) :
    ∀ (n : Nat) (σ : Sg), (left σ).length = n → RunL P G r n0 (.seq (.region m0 ops false) rest) (S σ) ex X := by
  intro n
  induction n using Nat.strongRecOn with
  | ind n ih =>
  intro σ hn V0 V a h0 hst hG hok
  have h1s : 1 ≤ ops.size := by rw [← Array.length_toList, hops]; simp
  have ho1 : ops[0]? = some o1 := by rw [← Array.getElem?_toList, hops]; rfl
  have hos : ops.toList.drop 1 = os := by rw [hops]; rfl
  have hr : List.range ops.size = 0 :: (List.range ops.size).drop 1 := by
    have := List.drop_eq_getElem_cons (l := List.range ops.size) (i := 0) (by simp; omega)
    simpa using this
  obtain ⟨cur, hob⟩ := hob σ
  have hev : a.eval (.tmp it) = .pointer (some ⟨V.ρ id, 0, none⟩) := by
    have := hok.env.get it
    rw [hit σ] at this
    exact (rep_ptr this).2
  refine LoopIn.next (Go.wpIn_seq (wpIn_region ?_))
  rw [hr, wpOpsIn_cons]
  unfold wpOpIn
  rw [ho1]
  have hw : Region.wanted o1 (yielded ops a.tmps) = true := by unfold Region.wanted; rw [hgd]
  simp only [hw, if_true]
  refine ⟨fun _ _ => trivial, ?_⟩
  rw [Oper.semAt_eq _ _ _ (fun c hc => by rw [hop] at hc; cases hc)]
  rcases next_sound (P := P) hG (hok.H ▸ hob) o1.type with ⟨hl, hrun⟩ | ⟨e, left', v, V', hp, hrun, hv, hH', hρ, hst', hG'⟩
  · obtain ⟨E1, hD, hR⟩ := done σ hl
    have hrun' : (execOp a.eval o1).run P V.w = .ok (.value (.tuple #[.bool false])) V.w := by
      rw [execOp, hop]; simp [hev, hrun]
    rw [hrun']
    have henv := hok.env.put (some ta) (x := .tup [.lit (.bool false)]) (v := .tuple #[.bool false]) (.pure _ _ (.tup [.lit (.bool false)] [.bool false] rfl fun j hj => by match j, hj with | 0, _ => exact .lit _))
    show wpOpsIn (fz r) 0 P ops _ ((List.range ops.size).drop 1) (a.put o1.dst (.tuple #[.bool false])) V.w
    rw [hdst]
    refine runD_sound hD trivial hos hG hok.H henv (by rw [put_def]; exact hok.defs) (fun _ V2 a2 s2 g2 k2 e2 d2 => ?_) fun x hx => by cases hx
    show rest.wpIn _ _ _ _ a2 V2.w
    refine Go.wpIn_mono (hR V0 V2 a2 h0 (hst.trans s2) g2 ⟨e2, k2, d2⟩) fun e3 a3 w3 hE => ?_
    have hE' := hE
    obtain ⟨V3, rfl, k1, k2, k3, k4⟩ := hE'
    cases e3 <;> first | exact hE | (cases ex <;> first | exact k4.elim | exact (hex rfl).elim)
  · obtain ⟨σ', E1, hl, hD, hP⟩ := round σ e left' hp
    have hrun' : (execOp a.eval o1).run P V.w = .ok (.value (.tuple #[.bool true, e.1, v])) V'.w := by
      rw [execOp, hop]; simp [hev, hrun]
    rw [hrun']
    have henv := (hok.env.step hst').put (some ta) (x := .tup [.lit (.bool true), .lit e.1, e.2]) (v := .tuple #[.bool true, e.1, v]) (.pure _ _ (.tup [.lit (.bool true), .lit e.1, e.2] [.bool true, e.1, v] rfl fun j hj => by
      match j, hj with
      | 0, _ => exact .lit _
      | 1, _ => exact .lit _
      | 2, _ => exact hv))
    show wpOpsIn (fz r) 0 P ops _ ((List.range ops.size).drop 1) (a.put o1.dst (.tuple #[.bool true, e.1, v])) V'.w
    rw [hdst]
    refine runD_sound hD trivial hos hG' (by rw [hH', hok.H]) henv (by rw [put_def]; exact hok.defs.step hst') (fun _ V2 a2 s2 g2 k2 e2 d2 => ?_) fun x hx => by cases hx
    show rest.wpIn _ _ _ _ a2 V2.w
    refine hP V0 V2 a2 _ _ h0 ((hst.trans hst').trans s2) g2 ⟨e2, k2, d2⟩ fun V3 a3 s3 g3 k3 => ?_
    exact ih (left σ').length (by rw [hl, ← hn, hp.length_eq]; simp) σ' rfl V0 V3 a3 h0 s3 g3 k3
end
end Go.Am

/- SEQUENCE, 67: Below: its maps. -/
namespace Go.Sq
open Go Go.Am Go.Proofs Go.Seat

def iV (i : ID) : Value := idV i.1 i.2.1 i.2.2
abbrev InI (i : ID) : Prop := InR i.1 ∧ InR i.2.1 ∧ InR i.2.2
def anE (A : List ID) : List (Value × AV) := A.map fun i => (iV i, bool true)
def unE (U : List (ID × List ID)) : List (Value × AV) := U.map fun e => (iV e.1, .md true (anE e.2))
theorem iV_inj {i j : ID} (h : iV i = iV j) : i = j := by
  exact idV_inj h
theorem an_keys {A : List ID} (h : ∀ i ∈ A, InI i) : ∀ e ∈ anE A, ∃ l, keyOf P 31 e.1 = some l := fun e he => by
  obtain ⟨i, hi, rfl⟩ := List.mem_map.1 he
  obtain ⟨h1, h2, h3⟩ := h i hi
  exact keyI h1 h2 h3
theorem un_keys {U : List (ID × List ID)} (h : ∀ e ∈ U, InI e.1) : ∀ e ∈ unE U, ∃ l, keyOf P 31 e.1 = some l := fun e he => by
  obtain ⟨i, hi, rfl⟩ := List.mem_map.1 he
  obtain ⟨h1, h2, h3⟩ := h i hi
  exact keyI h1 h2 h3
theorem an_get {A : List ID} (h : ∀ i ∈ A, InI i) {a b c : Int} (hi : InI (a, b, c)) (hm : (a, b, c) ∈ A) : MapGet P 31 (anE A) (idV a b c) (bool false) (bool true) true :=
  ⟨keyedI, keyI hi.1 hi.2.1 hi.2.2, an_keys h, .inl ⟨rfl, List.mem_map.2 ⟨_, hm, rfl⟩⟩⟩
theorem an_put {A : List ID} (h : ∀ i ∈ A, InI i) {i : ID} (hi : InI i) (hm : i ∉ A) : MapPut P 31 (anE A) (iV i) (bool true) (anE (A ++ [i])) :=
  ⟨keyedI, keyI hi.1 hi.2.1 hi.2.2, an_keys h, .inr ⟨fun e he hq => by
    obtain ⟨j, hj, rfl⟩ := List.mem_map.1 he
    exact hm (iV_inj hq ▸ hj), by simp [anE]⟩⟩
theorem an_new {a b c : Int} (hi : InI (a, b, c)) : MapPut P 31 [] (idV a b c) (bool true) (anE [(a, b, c)]) :=
  an_put (A := []) (i := (a, b, c)) (by simp) hi (by simp)
theorem aget_mem {U : List (ID × List ID)} {i : ID} (hm : i ∈ U.map (·.1)) : (i, aget U i) ∈ U := by
  unfold aget
  cases hf : U.find? (fun e => e.1 == i) with
  | none =>
    rw [List.find?_eq_none] at hf
    obtain ⟨e, he, rfl⟩ := List.mem_map.1 hm
    exact absurd (beq_self_eq_true e.1) (hf e he)
  | some e =>
    have h1 := List.mem_of_find?_eq_some hf
    have h2 := List.find?_some hf
    simp only [beq_iff_eq] at h2
    subst h2
    exact h1
theorem un_get {U : List (ID × List ID)} (h : ∀ e ∈ U, InI e.1) {a b c : Int} (hi : InI (a, b, c)) (hm : (a, b, c) ∈ U.map (·.1)) : MapGet P 31 (unE U) (idV a b c) (.lit (.map none)) (.md true (anE (aget U (a, b, c)))) true :=
  ⟨keyedI, keyI hi.1 hi.2.1 hi.2.2, un_keys h, .inl ⟨rfl, List.mem_map.2 ⟨_, aget_mem hm, rfl⟩⟩⟩
theorem un_put {U : List (ID × List ID)} (h : ∀ e ∈ U, InI e.1) {a b c : Int} (hi : InI (a, b, c)) (hm : (a, b, c) ∉ U.map (·.1)) (A : List ID) : MapPut P 31 (unE U) (idV a b c) (.md true (anE A)) (unE (U ++ [((a, b, c), A)])) :=
  ⟨keyedI, keyI hi.1 hi.2.1 hi.2.2, un_keys h, .inr ⟨fun e he hq => by
    obtain ⟨j, hj, rfl⟩ := List.mem_map.1 he
    exact hm (List.mem_map.2 ⟨j, hj, iV_inj (i := j.1) (j := (a, b, c)) hq⟩), by simp [unE, iV]⟩⟩
end Go.Sq

/- SEQUENCE, 68: Below, walked. -/
namespace Go.Sq
open Go Go.Am Go.Proofs Go.Seat

theorem be_0 (l : List CE) (hf : CallC P G 12 [ces l] [] (.ret (bool false)) []) (h : True) : CallC P G 7 [ces l] [] (AOut.ret (Am.bool true)) [] := by
  have _ := h
  exact callC_of [kc [] (@Go.Sq.sane_c ), kf (Eq.refl false), kc [] (@hf ), kt (Eq.refl true)] (by kernel_rfl)

theorem be_1 (l : List CE) (e : Int) (he : e ≠ 0) (hf : CallC P G 12 [ces l] [] (.ret (bool true)) []) (hO : CallC P G 13 [ces l] [] (.ret (.tup [ces [], int e])) []) (h : True) : CallC P G 7 [ces l] [] (AOut.ret (Am.bool true)) [] := by
  have _ := h
  exact callC_of [kc [] (@Go.Sq.sane_c ), kf (Eq.refl false), kc [] (@hf ), kf (Eq.refl false), kc [] (@hO ), kt (show (e != 0) = true from (congrArg Bool.not (decide_eq_false (by omega))))] (by kernel_rfl)

def beS (m : List CE) (W : List (Value × AV)) (i : Nat) : St := { env := slots 121 [(3, ces m), (5, .mp 0), (35, ces m), (36, int m.length), (37, int i)], H := [.map W] }
def beX : St := { env := slots 121 [], H := [.gone] }

theorem be_2 (l m : List CE) (hm : m.length = l.length) (hf : CallC P G 12 [ces l] [] (.ret (bool true)) []) (hO : CallC P G 13 [ces l] [] (.ret (.tup [ces m, int 0])) []) (hL : RunL P G none 0 (loopAt P 7 0) (beS m [] 0) (.exit 0) beX) (h : True) : CallC P G 7 [ces l] [] (AOut.ret (Am.bool true)) [] := by
  have hz3 : Am.Sub (int (↑(List.length (encs m)) : Int)) (int (↑(List.length m) : Int)) := (Sub.of_eq (by simp only [Go.Sq.encs_length]))
  have _ := h
  exact callC_of [kc [] (@Go.Sq.sane_c ), kf (Eq.refl false), kc [] (@hf ), kf (Eq.refl false), kc [] (@hO ), kf (Eq.refl false), kv 30 hz3, kv 32 (show Am.Sub (int (↑(List.length (encs l)) : Int)) (int (↑(List.length l) : Int)) from (Sub.of_eq (by simp only [Go.Sq.encs_length]))), kf (show ((↑(List.length m) : Int) != (↑(List.length l) : Int)) = false from (congrArg Bool.not (decide_eq_true (by omega)))), kv 36 hz3, kl [0, 1, 2, 4, 6, 7, 8, 9, 10, 11, 12, 13, 14, 15, 16, 17, 18, 19, 20, 21, 22, 23, 24, 25, 26, 27, 28, 29, 30, 31, 32, 33, 34, 38, 39, 40, 41, 42, 43, 44, 45, 46, 47, 48, 49, 50, 51, 52, 53, 54, 55, 56, 57, 58, 59, 60, 61, 62, 63, 64, 65, 66, 67, 68, 69, 70, 71, 72, 73, 74, 75, 76, 77, 78, 79, 80, 81, 82, 83, 84, 85, 86, 87, 88, 89, 90, 91, 92, 93, 94, 95, 96, 97, 98, 99, 100, 101, 102, 103, 104, 105, 106, 107, 108, 109, 110, 111, 112, 113, 114, 115, 116, 117, 118, 119, 120] 1 (@hL )] (by kernel_rfl)

end Go.Sq

/- SEQUENCE, 69: Below: a round. -/
namespace Go.Sq
open Go Go.Am Go.Proofs Go.Seat

def inS (m : List CE) (W : List (Value × AV)) (i : Nat) (c : CE) (L : List (Value × AV)) (k : Nat) : St := { env := slots 121 [(3, ces m), (5, .mp 0), (6, int i), (7, .ptr 1 0), (8, .md true L), (13, int k), (35, ces m), (36, int m.length), (37, int i)], H := [.map W, .box (enc c)] }
def inX (m : List CE) (W : List (Value × AV)) (i : Nat) (c : CE) (L : List (Value × AV)) : St := { env := slots 121 [(3, ces m), (5, .mp 0), (7, .ptr 1 0), (8, .md true L), (35, ces m), (36, int m.length), (37, int i)], H := [.map W, .box (enc c)] }
def inO (m : List CE) (W : List (Value × AV)) (i : Nat) (c : CE) : St := { env := slots 121 [(3, ces m), (5, .mp 0), (6, int i), (7, .ptr 1 0), (8, .mp 2), (13, int 0), (35, ces m), (36, int m.length), (37, int i)], H := [.map W, .box (enc c), .map (anE [c.id])] }
def rgS (m : List CE) (W : List (Value × AV)) (i : Nat) (c : CE) (q : Nat) (LA : List (Value × AV)) : St := { env := slots 121 [(3, ces m), (5, .mp 0), (6, int i), (7, .ptr 1 0), (8, .mp 2), (10, int q), (35, ces m), (36, int m.length), (37, int i), (65, .ptr 3 0)], H := [.map W, .box (enc c), .map (anE [c.id]), .iter none LA] }
def rgX (m : List CE) (W : List (Value × AV)) (i : Nat) (c : CE) (q : Nat) (L : List (Value × AV)) : St := { env := slots 121 [(3, ces m), (5, .mp 0), (6, int i), (7, .ptr 1 0), (8, .md true L), (10, int q), (35, ces m), (36, int m.length), (37, int i)], H := [.map W, .box (enc c)] }

theorem be_e (m : List CE) (W : List (Value × AV)) (i : Nat) (hi : ¬ (i : Int) < (m.length : Int)) (h : True) : RunL P G none 0 (loopAt P 7 0) (beS m W i) (AEx.exit 0) beX := by
  have _ := h
  exact RunL.to (RunL.postH ((show RunL P G none 0 (loopAt P 7 0) (beS m W i) (AEx.exit 0) (St.mk (slots 121 []) [AObj.map W] []) from loop_exit [kf (show decide ((↑i : Int) < (↑(List.length m) : Int)) = false from (decide_eq_false (by omega)))] (others 121 []) 1 (by kernel_rfl))) (by exact ⟨.inr trivial, trivial⟩)) rfl (SubS.slots trivial)

theorem be_r (m : List CE) (W W' L : List (Value × AV)) (i : Nat) (c : CE) (hl : m.length ≤ 1000000) (hi : (i : Int) < (m.length : Int)) (hc : m[i]? = some c) (ha : (c.ad == 0 && (c.as' == 0 && c.aa == 0)) = true) (hN : MapPut P 31 [] (idV c.dv c.sq c.at') (bool true) (anE [c.id])) (hI : RunL P G none 0 (loopAt P 7 2) (inO m W i c) (.exit 4) (inX m W i c L)) (hP : MapPut P 31 W (idV c.dv c.sq c.at') (.md true L) W') (ex : AEx) (s' : St) (h : ((∀ (e : Value × AV), e ∈ W' → AV.idsLt 1 (Prod.snd e) = true) ∧ RunL P G none 0 (loopAt P 7 0) (St.mk (slots 121 [(3, AV.sl 9 false (encs m)), (5, AV.mp 0), (35, AV.sl 9 false (encs m)), (36, int (↑(List.length m) : Int)), (37, int (↑(i + 1) : Int))]) [AObj.map W'] []) ex s')) : RunL P G none 0 (loopAt P 7 0) (beS m W i) ex s' := by
  obtain ⟨o2, h⟩ := h
  exact loop_next [kt (show decide ((↑i : Int) < (↑(List.length m) : Int)) = true from (decide_eq_true (by omega))), ko (Orc.elem (enc c)), ko (Orc.mput (anE [CE.id c])), kp (show (0 : Int) ≤ (↑i : Int) ∧ (encs m)[Int.toNat (↑i : Int)]? = some (enc c) from (el_nat hc)), kp (@hN ), kf (show (!(CE.ad c == 0 && (CE.as' c == 0 && CE.aa c == 0))) = false from (congrArg Bool.not (ha))), kl [9, 38, 39, 40, 41, 42, 43, 44, 45, 46, 47, 48, 49, 74] 3 (@hI ), ko (Orc.mput W'), kp (@hP ), kv 120 (show Am.Sub (int (IntKind.wrap IntKind.i64 ((↑i : Int) + 1))) (int (↑(i + 1) : Int)) from (Sub.of_wrap (by omega) (by omega) (by omega))), kp o2] (others 121 [3, 5, 35, 36, 37]) 1 h (by kernel_rfl)

theorem be_n (m : List CE) (W W' L LA : List (Value × AV)) (i : Nat) (c : CE) (q : Nat) (hl : m.length ≤ 1000000) (hq : q ≤ 1000000) (hi : (i : Int) < (m.length : Int)) (hc : m[i]? = some c) (ha : (c.ad == 0 && (c.as' == 0 && c.aa == 0)) = false) (hN : MapPut P 31 [] (idV c.dv c.sq c.at') (bool true) (anE [c.id])) (hF : CallC P G 22 [ces (m.take i), ida c.ad c.as' c.aa] [] (.ret (.tup [int q, bool true])) []) (hG : MapGet P 31 W (idV c.ad c.as' c.aa) (.lit (.map none)) (.md true LA) true) (hR : RunL P G none 0 (loopAt P 7 1) (rgS m W i c q LA) (.exit 2) (rgX m W i c q L)) (hI : RunL P G none 0 (loopAt P 7 2) (inS m W i c L (q + 1)) (.exit 4) (inX m W i c L)) (hP : MapPut P 31 W (idV c.dv c.sq c.at') (.md true L) W') (ex : AEx) (s' : St) (h : (((0 : Int) ≤ (0 : Int) ∧ (0 : Int) ≤ (↑i : Int) ∧ (↑i : Int) ≤ (↑(List.length (encs m)) : Int)) ∧ ((∀ (e : Value × AV), e ∈ W' → AV.idsLt 1 (Prod.snd e) = true) ∧ RunL P G none 0 (loopAt P 7 0) (St.mk (slots 121 [(3, AV.sl 9 false (encs m)), (5, AV.mp 0), (35, AV.sl 9 false (encs m)), (36, int (↑(List.length m) : Int)), (37, int (↑(i + 1) : Int))]) [AObj.map W'] []) ex s'))) : RunL P G none 0 (loopAt P 7 0) (beS m W i) ex s' := by
  obtain ⟨o2, h⟩ := h
  obtain ⟨o3, h⟩ := h
  exact loop_next [kt (show decide ((↑i : Int) < (↑(List.length m) : Int)) = true from (decide_eq_true (by omega))), ko (Orc.elem (enc c)), ko (Orc.mput (anE [CE.id c])), kp (show (0 : Int) ≤ (↑i : Int) ∧ (encs m)[Int.toNat (↑i : Int)]? = some (enc c) from (el_nat hc)), kp (@hN ), kt (show (!(CE.ad c == 0 && (CE.as' c == 0 && CE.aa c == 0))) = true from (congrArg Bool.not (ha))), kv 53 (show Am.Sub (AV.sl 9 false (List.drop 0 (List.take (Int.toNat (↑i : Int)) (encs m)))) (AV.sl 9 false (List.drop 0 (encs (List.take (Int.toNat (↑i : Int)) m)))) from (Sub.of_eq (by simp only [Go.Sq.encs_take]))), kp o2, kc [] (@hF ), kf (Eq.refl false), ko (Orc.mget (AV.md true LA) true), kp (@hG ), kl [9, 11, 38, 39, 40, 41, 42, 43, 44, 45, 46, 47, 48, 49, 50, 51, 52, 53, 54, 55, 56, 57, 58, 59, 60, 61, 62, 63, 64] 4 (@hR ), kv 73 (show Am.Sub (int (IntKind.wrap IntKind.i64 ((↑q : Int) + 1))) (int (↑(q + 1) : Int)) from (Sub.of_wrap (by omega) (by omega) (by omega))), kl [9, 10, 72, 73, 74] 2 (@hI ), ko (Orc.mput W'), kp (@hP ), kv 120 (show Am.Sub (int (IntKind.wrap IntKind.i64 ((↑i : Int) + 1))) (int (↑(i + 1) : Int)) from (Sub.of_wrap (by omega) (by omega) (by omega))), kp o3] (others 121 [3, 5, 35, 36, 37]) 1 h (by kernel_rfl)

end Go.Sq

/- SEQUENCE, 70: Below: the inner loop's rounds. -/
namespace Go.Sq
open Go Go.Am Go.Proofs Go.Seat

theorem in_e (m : List CE) (W L : List (Value × AV)) (i k : Nat) (c : CE) (hk : ¬ (k : Int) < (i : Int)) (h : True) : RunL P G none 0 (loopAt P 7 2) (inS m W i c L k) (AEx.exit 4) (inX m W i c L) := by
  have _ := h
  exact loop_exit [kf (show decide ((↑k : Int) < (↑i : Int)) = false from (decide_eq_false (by omega)))] (others 121 [3, 5, 7, 8, 35, 36, 37]) 2 (by kernel_rfl)

theorem in_r (m : List CE) (W L : List (Value × AV)) (i k : Nat) (c x : CE) (g : Bool) (hl : m.length ≤ 1000000) (hk : (k : Int) < (i : Int)) (hkm : k < m.length) (hx : m[k]? = some x) (ha : (c.ad == 0 && (c.as' == 0 && c.aa == 0)) = true) (hg : CallC P G 27 [cel x, cel c] [] (.ret (bool g)) []) (ex : AEx) (s' : St) (h : ((((CE.ad x == CE.ad c && (CE.as' x == CE.as' c && CE.aa x == CE.aa c)) = true) → ((((g) = true) → RunL P G none 0 (loopAt P 7 2) (St.mk (slots 121 [(3, AV.sl 9 false (encs m)), (5, AV.mp 0), (6, int (↑i : Int)), (7, AV.ptr 1 0), (8, AV.md true L), (13, int (↑(k + 1) : Int)), (35, AV.sl 9 false (encs m)), (36, int (↑(List.length m) : Int)), (37, int (↑i : Int))]) [AObj.map W, AObj.box [int (CE.dv c), int (CE.sq c), int (CE.at' c), int (CE.ad c), int (CE.as' c), int (CE.aa c), int (CE.tm c), str (CE.vl c), Am.bool (CE.gn c)]] []) ex s') ∧ (((g) = false) → (AEx.ret = ex) ∧ (St.mk (slots 121 []) [AObj.map W, AObj.box [int (CE.dv c), int (CE.sq c), int (CE.at' c), int (CE.ad c), int (CE.as' c), int (CE.aa c), int (CE.tm c), str (CE.vl c), Am.bool (CE.gn c)]] [] = s')))) ∧ (((CE.ad x == CE.ad c && (CE.as' x == CE.as' c && CE.aa x == CE.aa c)) = false) → RunL P G none 0 (loopAt P 7 2) (St.mk (slots 121 [(3, AV.sl 9 false (encs m)), (5, AV.mp 0), (6, int (↑i : Int)), (7, AV.ptr 1 0), (8, AV.md true L), (13, int (↑(k + 1) : Int)), (35, AV.sl 9 false (encs m)), (36, int (↑(List.length m) : Int)), (37, int (↑i : Int))]) [AObj.map W, AObj.box [int (CE.dv c), int (CE.sq c), int (CE.at' c), int (CE.ad c), int (CE.as' c), int (CE.aa c), int (CE.tm c), str (CE.vl c), Am.bool (CE.gn c)]] []) ex s'))) : RunL P G none 0 (loopAt P 7 2) (inS m W i c L k) ex s' := by
  have hz0 : decide ((↑k : Int) < (↑i : Int)) = true := (decide_eq_true (by omega))
  have hz1 : (!(CE.ad c == 0 && (CE.as' c == 0 && CE.aa c == 0))) = false := (congrArg Bool.not (ha))
  have hz2 : (0 : Int) ≤ (↑k : Int) ∧ (encs m)[Int.toNat (↑k : Int)]? = some (enc x) := (el_nat hx)
  have hz3 := (@hg )
  rcases Bool.eq_false_or_eq_true ((CE.ad x == CE.ad c && (CE.as' x == CE.as' c && CE.aa x == CE.aa c))) with c2 | c2
  · have h := h.1 c2
    rcases Bool.eq_false_or_eq_true ((g)) with c3 | c3
    · have h := h.1 c3
      exact loop_next [kt hz0, kf hz1, kf (Eq.refl false), ko (Orc.elem (enc x)), kp hz2, kt c2, ko (Orc.elem (enc x)), kp hz2, kc [] hz3, kf (show (!g) = false from (congrArg Bool.not (c3))), kv 79 (show Am.Sub (int (IntKind.wrap IntKind.i64 ((↑k : Int) + 1))) (int (↑(k + 1) : Int)) from (Sub.of_wrap (by omega) (by omega) (by omega)))] (others 121 [3, 5, 6, 7, 8, 13, 35, 36, 37]) 2 h (by kernel_rfl)
    · have h := h.2 c3
      obtain ⟨eX, eS⟩ := h
      exact RunL.to ((show RunL P G none 0 (loopAt P 7 2) (inS m W i c L k) AEx.ret (St.mk (slots 121 []) [AObj.map W, AObj.box [int (CE.dv c), int (CE.sq c), int (CE.at' c), int (CE.ad c), int (CE.as' c), int (CE.aa c), int (CE.tm c), str (CE.vl c), Am.bool (CE.gn c)]] []) from loop_exit [kt hz0, kf hz1, kf (Eq.refl false), ko (Orc.elem (enc x)), kp hz2, kt c2, ko (Orc.elem (enc x)), kp hz2, kc [] hz3, kt (show (!g) = true from (congrArg Bool.not (c3)))] (others 121 []) 2 (by kernel_rfl))) eX (SubS.of_eq eS)
  · have h := h.2 c2
    exact loop_next [kt hz0, kf hz1, kf (Eq.refl false), ko (Orc.elem (enc x)), kp hz2, kf c2, kf (Eq.refl false), kv 79 (show Am.Sub (int (IntKind.wrap IntKind.i64 ((↑k : Int) + 1))) (int (↑(k + 1) : Int)) from (Sub.of_wrap (by omega) (by omega) (by omega)))] (others 121 [3, 5, 6, 7, 8, 13, 35, 36, 37]) 2 h (by kernel_rfl)

theorem in_n (m : List CE) (W L : List (Value × AV)) (i k : Nat) (c x : CE) (LB : List (Value × AV)) (g : Bool) (hl : m.length ≤ 1000000) (hk : (k : Int) < (i : Int)) (hkm : k < m.length) (hx : m[k]? = some x) (ha : (c.ad == 0 && (c.as' == 0 && c.aa == 0)) = false) (hg : CallC P G 27 [cel x, cel c] [] (.ret (bool g)) []) (hG : MapGet P 31 W (idV x.dv x.sq x.at') (.lit (.map none)) (.md true LB) true) (hM : MapGet P 31 LB (idV c.ad c.as' c.aa) (bool false) (bool true) true) (ex : AEx) (s' : St) (h : ((((CE.ad x == CE.ad c && (CE.as' x == CE.as' c && CE.aa x == CE.aa c)) = true) → ((((g) = true) → RunL P G none 0 (loopAt P 7 2) (St.mk (slots 121 [(3, AV.sl 9 false (encs m)), (5, AV.mp 0), (6, int (↑i : Int)), (7, AV.ptr 1 0), (8, AV.md true L), (13, int (↑(k + 1) : Int)), (35, AV.sl 9 false (encs m)), (36, int (↑(List.length m) : Int)), (37, int (↑i : Int))]) [AObj.map W, AObj.box [int (CE.dv c), int (CE.sq c), int (CE.at' c), int (CE.ad c), int (CE.as' c), int (CE.aa c), int (CE.tm c), str (CE.vl c), Am.bool (CE.gn c)]] []) ex s') ∧ (((g) = false) → (AEx.ret = ex) ∧ (St.mk (slots 121 []) [AObj.map W, AObj.box [int (CE.dv c), int (CE.sq c), int (CE.at' c), int (CE.ad c), int (CE.as' c), int (CE.aa c), int (CE.tm c), str (CE.vl c), Am.bool (CE.gn c)]] [] = s')))) ∧ (((CE.ad x == CE.ad c && (CE.as' x == CE.as' c && CE.aa x == CE.aa c)) = false) → RunL P G none 0 (loopAt P 7 2) (St.mk (slots 121 [(3, AV.sl 9 false (encs m)), (5, AV.mp 0), (6, int (↑i : Int)), (7, AV.ptr 1 0), (8, AV.md true L), (13, int (↑(k + 1) : Int)), (35, AV.sl 9 false (encs m)), (36, int (↑(List.length m) : Int)), (37, int (↑i : Int))]) [AObj.map W, AObj.box [int (CE.dv c), int (CE.sq c), int (CE.at' c), int (CE.ad c), int (CE.as' c), int (CE.aa c), int (CE.tm c), str (CE.vl c), Am.bool (CE.gn c)]] []) ex s'))) : RunL P G none 0 (loopAt P 7 2) (inS m W i c L k) ex s' := by
  have hz0 : decide ((↑k : Int) < (↑i : Int)) = true := (decide_eq_true (by omega))
  have hz1 : (!(CE.ad c == 0 && (CE.as' c == 0 && CE.aa c == 0))) = true := (congrArg Bool.not (ha))
  have hz2 : (0 : Int) ≤ (↑k : Int) ∧ (encs m)[Int.toNat (↑k : Int)]? = some (enc x) := (el_nat hx)
  have hz3 := (@hG )
  have hz4 := (@hM )
  have hz5 := (@hg )
  rcases Bool.eq_false_or_eq_true ((CE.ad x == CE.ad c && (CE.as' x == CE.as' c && CE.aa x == CE.aa c))) with c2 | c2
  · have h := h.1 c2
    rcases Bool.eq_false_or_eq_true ((g)) with c3 | c3
    · have h := h.1 c3
      exact loop_next [kt hz0, kt hz1, ko (Orc.elem (enc x)), ko (Orc.mget (AV.md true LB) true), ko (Orc.mget (Am.bool true) true), kp hz2, kp hz3, kp hz4, kf (Eq.refl false), ko (Orc.elem (enc x)), kp hz2, kt c2, ko (Orc.elem (enc x)), kp hz2, kc [] hz5, kf (show (!g) = false from (congrArg Bool.not (c3))), kv 79 (show Am.Sub (int (IntKind.wrap IntKind.i64 ((↑k : Int) + 1))) (int (↑(k + 1) : Int)) from (Sub.of_wrap (by omega) (by omega) (by omega)))] (others 121 [3, 5, 6, 7, 8, 13, 35, 36, 37]) 2 h (by kernel_rfl)
    · have h := h.2 c3
      obtain ⟨eX, eS⟩ := h
      exact RunL.to ((show RunL P G none 0 (loopAt P 7 2) (inS m W i c L k) AEx.ret (St.mk (slots 121 []) [AObj.map W, AObj.box [int (CE.dv c), int (CE.sq c), int (CE.at' c), int (CE.ad c), int (CE.as' c), int (CE.aa c), int (CE.tm c), str (CE.vl c), Am.bool (CE.gn c)]] []) from loop_exit [kt hz0, kt hz1, ko (Orc.elem (enc x)), ko (Orc.mget (AV.md true LB) true), ko (Orc.mget (Am.bool true) true), kp hz2, kp hz3, kp hz4, kf (Eq.refl false), ko (Orc.elem (enc x)), kp hz2, kt c2, ko (Orc.elem (enc x)), kp hz2, kc [] hz5, kt (show (!g) = true from (congrArg Bool.not (c3)))] (others 121 []) 2 (by kernel_rfl))) eX (SubS.of_eq eS)
  · have h := h.2 c2
    exact loop_next [kt hz0, kt hz1, ko (Orc.elem (enc x)), ko (Orc.mget (AV.md true LB) true), ko (Orc.mget (Am.bool true) true), kp hz2, kp hz3, kp hz4, kf (Eq.refl false), ko (Orc.elem (enc x)), kp hz2, kf c2, kf (Eq.refl false), kv 79 (show Am.Sub (int (IntKind.wrap IntKind.i64 ((↑k : Int) + 1))) (int (↑(k + 1) : Int)) from (Sub.of_wrap (by omega) (by omega) (by omega)))] (others 121 [3, 5, 6, 7, 8, 13, 35, 36, 37]) 2 h (by kernel_rfl)

end Go.Sq

/- SEQUENCE, 41: the law AnyOrder, walked. -/
namespace Go.Sq
open Go Go.Am Go.Proofs Go.Seat

end Go.Sq

/- SEQUENCE, 42: AnyOrder. -/
namespace Go.Sq
open Go Go.Am Go.Proofs Go.Seat

end Go.Sq

/- SEQUENCE, 43: AnyOrder, as it is closed. -/
namespace Go.Sq
open Go Go.Am Go.Proofs Go.Seat

end Go.Sq

/- SEQUENCE, 71: Below: the range over a map of maps, the loops, the law. -/
namespace Go.Sq
open Go Go.Am Go.Proofs Go.Seat

/-! ### The range -/
def unI (e : Value × AV) : ID := match e.1 with
  | .agg ⟨[.int _ a, .int _ b, .int _ c]⟩ => (a, b, c)
  | _ => (0, 0, 0)
theorem unI_an (i : ID) : unI (iV i, bool true) = i := rfl
theorem an_unI (A : List ID) : (anE A).map unI = A := by
  unfold anE
  rw [List.map_map]
  exact (List.map_congr_left fun i _ => unI_an i).trans (List.map_id _)
theorem an_split {lf : List ID} {e : Value × AV} {l' : List (Value × AV)} (hp : (anE lf).Perm (e :: l')) : ∃ j lf', e = (iV j, bool true) ∧ l' = anE lf' ∧ lf.Perm (j :: lf') := by
  have hm : ∀ x ∈ e :: l', (iV (unI x), bool true) = x := fun x hx => by
    obtain ⟨i, _, rfl⟩ := List.mem_map.1 (hp.mem_iff.2 hx)
    rfl
  have p1 := hp.map unI
  rw [an_unI] at p1
  refine ⟨unI e, l'.map unI, (hm e List.mem_cons_self).symm, ?_, p1⟩
  unfold anE
  rw [List.map_map]
  exact ((List.map_congr_left (g := id) fun x hx => hm x (List.mem_cons_of_mem _ hx)).trans (List.map_id _)).symm
theorem an_idsLt (n : Nat) (A : List ID) : ∀ e ∈ anE A, e.2.idsLt n = true := fun e he => by
  obtain ⟨i, _, rfl⟩ := List.mem_map.1 he
  rfl
theorem an_pure (A : List ID) : ∀ e ∈ anE A, e.2.pureB = true := fun e he => by
  obtain ⟨i, _, rfl⟩ := List.mem_map.1 he
  rfl
theorem un_idsLt (n : Nat) (U : List (ID × List ID)) : ∀ e ∈ unE U, e.2.idsLt n = true := fun e he => by
  obtain ⟨i, _, rfl⟩ := List.mem_map.1 he
  rfl

noncomputable def c21 : Code := loopAt P 7 1
noncomputable def ops21 : Array Oper := opsOf (Code.hd c21)
noncomputable def op21 (i : Nat) : Oper := ops21.toList.getD i default
theorem c21_is : c21 = .seq (.region 21 ops21 false) (Code.tl c21) := by kernel_rfl
theorem ops21_is : ops21.toList = [op21 0, op21 1] := by kernel_rfl

def Rg (A : List ID) : Type := { x : Option (Value × AV) × List ID × List (Value × AV) // ∃ lf, x.2.2 = anE lf ∧ (x.2.1 ++ lf).Perm A }
def rgE (m : List CE) (i q : Nat) (v : AV) : List AV := slots 121 [(3, ces m), (5, .mp 0), (6, int i), (7, .ptr 1 0), (8, v), (10, int q), (35, ces m), (36, int m.length), (37, int i), (65, .ptr 3 0)]
def rgT (m : List CE) (W : List (Value × AV)) (i : Nat) (c : CE) (q : Nat) {A : List ID} (σ : Rg A) : St := { env := rgE m i q (.mp 2), H := [.map W, .box (enc c), .map (anE (c.id :: σ.1.2.1)), .iter σ.1.1 σ.1.2.2] }

theorem rg_round (m : List CE) (W es es' left' : List (Value × AV)) (i q : Nat) (c : CE) (j : ID) (hW : ∀ e ∈ W, e.2.idsLt 4 = true) (hput : MapPut P 31 es (idV j.1 j.2.1 j.2.2) (bool true) es') (hes : ∀ e ∈ es', e.2.idsLt 4 = true) :
    PieceC P G none 0 (Code.tl c21) ⟨putA (putA (rgE m i q (.mp 2)) (some 66) (.tup [.lit (.bool true), .lit (iV j), bool true])) (some 67) (bool true), [.map W, .box (enc c), .map es, .iter (some (iV j, bool true)) left'], []⟩
      ⟨rgE m i q (.mp 2), [.map W, .box (enc c), .map es', .iter (some (iV j, bool true)) left'], []⟩ :=
  piece_of [kt (Eq.refl true), ko (Orc.mput es'), kp hput, kp hW, kp hes] (others 121 [3, 5, 6, 7, 8, 10, 35, 36, 37, 65]) 4 (by kernel_rfl)
theorem rg_exit (m : List CE) (W : List (Value × AV)) (i q : Nat) (c : CE) (L left : List (Value × AV)) (cur : Option (Value × AV)) : runC P G none 0 (Code.tl c21) ⟨(putA (putA (rgE m i q (.mp 2)) (some 66) (.tup [.lit (.bool false)])) (some 67) (bool false)).set 8 (.md true L), [.map W, .box (enc c), .gone, .iter cur left], []⟩ [Orc.br false] =
    some (.exit 2, ⟨(putA (putA (rgE m i q (.mp 2)) (some 66) (.tup [.lit (.bool false)])) (some 67) (bool false)).set 8 (.md true L), [.map W, .box (enc c), .gone, .iter cur left], []⟩, [], [(false : Bool) = false]) := by kernel_rfl
theorem rg_weak (m : List CE) (W : List (Value × AV)) (i q : Nat) (c : CE) (L left : List (Value × AV)) (cur : Option (Value × AV)) : weakA 0 (others 121 [3, 5, 6, 7, 8, 10, 35, 36, 37]) 2 ⟨(putA (putA (rgE m i q (.mp 2)) (some 66) (.tup [.lit (.bool false)])) (some 67) (bool false)).set 8 (.md true L), [.map W, .box (enc c), .gone, .iter cur left], []⟩ =
    some (rgX m W i c q L, [∀ e ∈ W, e.2.idsLt 2 = true]) := by kernel_rfl

theorem rg_run (m : List CE) (U : List (ID × List ID)) (i q : Nat) (c : CE) (A : List ID) (hA : ∀ j ∈ c.id :: A, InI j) (hn : (c.id :: A).Nodup) :
    RunL P G none 0 (loopAt P 7 1) (rgS m (unE U) i c q (anE A)) (.exit 2) (rgX m (unE U) i c q (anE (c.id :: A))) := by
  show RunL P G none 0 c21 _ _ _
  rw [c21_is]
  have key := RunL.iter (P := P) (G := G) (r := none) (n0 := 0) (m0 := 21) (ta := 66) (it := 65) (id := 3) (ops := ops21) (os := [op21 1]) (o1 := op21 0) (rest := Code.tl c21) (ex := .exit 2) (Sg := Rg A) (rgT m (unE U) i c q) (fun σ => σ.1.2.2) (rgX m (unE U) i c q (anE (c.id :: A)))
    ops21_is (by kernel_rfl) (by kernel_rfl) (by kernel_rfl) (fun σ => rfl) (fun σ => ⟨σ.1.1, rfl⟩) ?_ ?_ (fun h => by cases h)
  · exact key _ ⟨(none, [], anE A), A, rfl, .refl _⟩ rfl
  · intro ⟨⟨cur, dn, left⟩, lf, hlf, hdn⟩ e left' hp
    have hlf : left = anE lf := hlf
    have hp : left.Perm (e :: left') := hp
    rw [hlf] at hp
    obtain ⟨j, lf', rfl, rfl, hj⟩ := an_split hp
    have hdn' : (dn ++ [j] ++ lf').Perm A := by
      refine List.Perm.trans ?_ hdn
      rw [List.append_assoc]
      exact (hj.symm).append_left dn
    have hmem : j ∈ A := hdn'.mem_iff.1 (by simp)
    have hall : ∀ x ∈ c.id :: dn, InI x := fun x hx => by
      rcases List.mem_cons.1 hx with rfl | hx
      · exact hA _ List.mem_cons_self
      · exact hA x (List.mem_cons_of_mem _ (hdn.mem_iff.1 (List.mem_append_left _ hx)))
    have hnew : j ∉ c.id :: dn := fun hx => by
      have hnA := (List.nodup_cons.1 hn)
      rcases List.mem_cons.1 hx with rfl | hx
      · exact hnA.1 hmem
      · have := hdn'.nodup_iff.2 hnA.2
        rw [List.append_assoc] at this
        exact (List.nodup_append.1 this).2.2 j hx j (by simp) rfl
    refine ⟨⟨(some (iV j, bool true), dn ++ [j], anE lf'), lf', rfl, hdn'⟩, putA (putA (rgE m i q (.mp 2)) (some 66) (.tup [.lit (.bool true), .lit (iV j), bool true])) (some 67) (bool true), rfl, by kernel_rfl, ?_⟩
    exact rg_round m (unE U) (anE (c.id :: dn)) (anE (c.id :: (dn ++ [j]))) (anE lf') i q c j (un_idsLt 4 U) (an_put hall (hA j (List.mem_cons_of_mem _ hmem)) hnew) (an_idsLt 4 _)
  · intro ⟨⟨cur, dn, left⟩, lf, hlf, hdn⟩ h0
    have hlf : left = anE lf := hlf
    have h0 : left = [] := h0
    have hl0 : lf = [] := by
      have := congrArg (List.map unI) (hlf.symm.trans h0)
      rw [an_unI] at this
      exact this
    subst h0 hl0
    rw [List.append_nil] at hdn
    refine ⟨putA (putA (rgE m i q (.mp 2)) (some 66) (.tup [.lit (.bool false)])) (some 67) (bool false), by kernel_rfl, ?_⟩
    intro V0 V a h0 hst hG hok
    have hH : V.H = [.map (unE U), .box (enc c), .map (anE (c.id :: dn)), .iter cur []] := hok.H
    have hr : Rep V (.mp 2) (a.tmps.getD 8 undef) := hok.env.get 8
    obtain ⟨V1, k1, k2, k3, k4, k5⟩ := frz_sound (y := .md true (anE (c.id :: dn))) (z := []) (H' := [.map (unE U), .box (enc c), .gone, .iter cur []]) (ps := [∀ e ∈ anE (c.id :: dn), e.2.pureB = true]) (by rw [hH]; rfl) ⟨an_pure _, trivial⟩ hG hr
    have k6 : Rep V1 (.md true (anE (c.id :: A))) (a.tmps.getD 8 undef) := by
      have := rep_md k5
      generalize a.tmps.getD 8 undef = v at this
      cases this with
      | md _ _ es0 hp r ents clock hb hc hk hd hrr hbn => exact .pure _ _ (.md true _ es0 (hp.trans ((List.Perm.cons _ hdn).map _)) r ents clock hb hc hk hd hrr hbn)
    have hok1 : StOk V1 ⟨(putA (putA (rgE m i q (.mp 2)) (some 66) (.tup [.lit (.bool false)])) (some 67) (bool false)).set 8 (.md true (anE (c.id :: A))), [.map (unE U), .box (enc c), .gone, .iter cur []], []⟩ a := ⟨EnvOk.setAt hok.env k3 k6, k2, hok.defs.step k3⟩
    rw [← k1]
    refine Go.wpIn_mono (runC_sound _ (rg_exit m (unE U) i q c (anE (c.id :: A)) [] cur) ⟨rfl, trivial⟩ V0 V1 a h0 (hst.trans k3) k4 hok1) fun e a2 w2 hE => ?_
    obtain ⟨V2, rfl, l1, l2, l3, l4⟩ := hE
    obtain ⟨V3, m1, m2, m3, m4⟩ := weak_sound (rg_weak m (unE U) i q c (anE (c.id :: A)) [] cur) ⟨un_idsLt 2 U, trivial⟩ h0 l1 l2 l3
    exact ⟨V3, m1, m2, m3, m4, by cases e <;> first | exact l4.elim | exact l4⟩

/-! ### The inner loop -/
theorem in_run (m : List CE) (U : List (ID × List ID)) (L : List (Value × AV)) (i : Nat) (c : CE) (hl : m.length ≤ 1000000) (hi : i ≤ m.length) (hU : ∀ e ∈ U, InI e.1)
    (hc : InI c.after) (k0 : Nat) (hb : ∀ k x, k0 ≤ k → k < i → m[k]? = some x → InI x.id ∧ x.id ∈ U.map (·.1) ∧ (∀ j ∈ aget U x.id, InI j) ∧ (c.after ≠ (0, 0, 0) → c.after ∈ aget U x.id) ∧ (x.after = c.after → gtB x c = true)) :
    ∀ n k, i - k = n → k0 ≤ k → k ≤ i → RunL P G none 0 (loopAt P 7 2) (inS m (unE U) i c L k) (.exit 4) (inX m (unE U) i c L) := by
  intro n
  induction n with
  | zero => exact fun k hn _ hk => in_e m _ L i k c (by omega) trivial
  | succ n ih =>
    intro k hn hk0 hk
    have hkm : k < m.length := by omega
    have hx : m[k]? = some m[k] := List.getElem?_eq_getElem hkm
    obtain ⟨b1, b2, b3, b4, b5⟩ := hb k _ hk0 (by omega) hx
    have nx := ih (k + 1) (by omega) (by omega) (by omega)
    generalize m[k] = x at *
    have sis : (x.ad == c.ad && (x.as' == c.as' && x.aa == c.aa)) = true → gtB x c = true := fun h => by
      simp only [Bool.and_eq_true, beq_iff_eq] at h
      exact b5 (by simp only [CE.after, h.1, h.2.1, h.2.2])
    cases ha : (c.ad == 0 && (c.as' == 0 && c.aa == 0)) with
    | true => exact in_r m _ L i k c x _ hl (by omega) hkm hx ha (gt_c x c) _ _ ⟨fun h => ⟨fun _ => nx, fun hg => by rw [sis h] at hg; cases hg⟩, fun _ => nx⟩
    | false =>
      have hne : c.after ≠ (0, 0, 0) := fun e => by
        simp only [CE.after, Prod.mk.injEq] at e
        rw [e.1, e.2.1, e.2.2] at ha
        cases ha
      exact in_n m _ L i k c x _ _ hl (by omega) hkm hx ha (gt_c x c) (un_get hU b1 b2) (an_get b3 hc (b4 hne)) _ _ ⟨fun h => ⟨fun _ => nx, fun hg => by rw [sis h] at hg; cases hg⟩, fun _ => nx⟩

theorem in0_run (m : List CE) (U : List (ID × List ID)) (i : Nat) (c : CE) (h : RunL P G none 0 (loopAt P 7 2) (inS m (unE U) i c (anE [c.id]) 0) (.exit 4) (inX m (unE U) i c (anE [c.id]))) :
    RunL P G none 0 (loopAt P 7 2) (inO m (unE U) i c) (.exit 4) (inX m (unE U) i c (anE [c.id])) := by
  refine RunL.frzSlot (t := 8) (x := .mp 2) (y := .md true (anE [c.id])) (z := []) (H1 := [.map (unE U), .box (enc c), .gone]) (ps := [∀ e ∈ anE [c.id], e.2.pureB = true]) rfl rfl ⟨an_pure _, trivial⟩ ?_
  exact RunL.weakPre (s2 := inS m (unE U) i c (anE [c.id]) 0) (ps := [∀ e ∈ unE U, e.2.idsLt 2 = true]) [] 2 (by kernel_rfl) ⟨un_idsLt 2 U, trivial⟩ h

/-! ### The law -/
theorem be_run {l m : List CE} (h : Ok l) (he : all l = m) (hR : OkRs m) (hl : m.length ≤ 1000000) : ∀ n i, m.length - i = n → i ≤ m.length → RunL P G none 0 (loopAt P 7 0) (beS m (unE (undL (m.take i))) i) (.exit 0) beX := by
  have hids : Ids m := by
    have hnd := all_nodup h
    rw [he] at hnd
    exact hnd.imp_of_mem fun {a b} ha hb hab e => hab (h.one (((mem_all h).1 (he ▸ ha)).1) (((mem_all h).1 (he ▸ hb)).1) e)
  intro n
  induction n with
  | zero => exact fun i hn hi => be_e m _ i (by omega) trivial
  | succ n ih =>
    intro i hn hi
    have hlt : i < m.length := by omega
    have hx : m[i]? = some m[i] := List.getElem?_eq_getElem hlt
    have hsplit : all l = m.take i ++ m[i] :: m.drop (i + 1) := by
      rw [he, ← List.drop_eq_getElem_cons hlt, List.take_append_drop]
    have nx := ih (i + 1) (by omega) (by omega)
    have htk : m.take (i + 1) = m.take i ++ [m[i]] := by rw [List.take_add_one, hx]; rfl
    rw [htk, undL_snoc] at nx
    have hin : ∀ x ∈ m.take i, x ∈ m := fun x hx => List.mem_of_mem_take hx
    have hidm : ∀ x ∈ m, InI x.id := fun x hx => (hR x hx).1
    have hidt : Ids (m.take i) := List.Pairwise.sublist (List.take_sublist _ _) hids
    have hU : ∀ e ∈ undL (m.take i), InI e.1 := fun e he => by
      have : e.1 ∈ (undL (m.take i)).map (·.1) := List.mem_map.2 ⟨e, he, rfl⟩
      rw [undL_keys] at this
      obtain ⟨x, hx, e'⟩ := List.mem_map.1 this
      rw [← e']; exact hidm x (hin x hx)
    have hne : ∀ x ∈ m.take i, x.id ≠ (m[i]).id := fun x hx => by
      have := hids
      rw [← he, hsplit] at this
      exact (List.pairwise_append.1 this).2.2 x hx _ List.mem_cons_self
    have hnew : (m[i]).id ∉ (undL (m.take i)).map (·.1) := by
      rw [undL_keys]; intro hm'
      obtain ⟨x, hx, e⟩ := List.mem_map.1 hm'
      exact hne x hx e
    have hc : OkR m[i] := hR _ (List.getElem_mem hlt)
    have hag : ∀ x ∈ m.take i, x.id ∈ (undL (m.take i)).map (·.1) ∧ ∀ j ∈ aget (undL (m.take i)) x.id, InI j := fun x hx => by
      refine ⟨by rw [undL_keys]; exact List.mem_map.2 ⟨x, hx, rfl⟩, fun j hj => ?_⟩
      obtain ⟨y, hy, e⟩ := List.mem_map.1 ((und_ok _ hidt x hx).1 j hj)
      rw [← e]; exact hidm y (hin y hy)
    generalize hcc : m[i] = c at *
    have hN := an_new (a := c.dv) (b := c.sq) (c := c.at') hc.1
    rcases all_split h hsplit with ⟨h1, h2⟩ | ⟨u1, p, u2, hu, hp, hpe, h2⟩
    · have ha : (c.ad == 0 && (c.as' == 0 && c.aa == 0)) = true := by
        simp only [CE.after, Prod.mk.injEq] at h1
        rw [h1.1, h1.2.1, h1.2.2]; rfl
      rw [if_pos h1] at nx
      have hI := in0_run m (undL (m.take i)) i c (in_run m (undL (m.take i)) _ i c hl hi hU (show InI c.after from hc.2) 0 (fun k x _ hk hx => by
        have hxm : x ∈ m.take i := List.mem_of_getElem? (show (m.take i)[k]? = some x by rw [List.getElem?_take, if_pos hk]; exact hx)
        exact ⟨hidm x (hin x hxm), (hag x hxm).1, (hag x hxm).2, fun hh => absurd h1 hh, h2 x hxm⟩) _ 0 rfl (Nat.le_refl _) (Nat.zero_le _))
      exact be_r m _ _ _ i c hl (by omega) hx ha hN hI (un_put hU hc.1 hnew [c.id]) _ _ ⟨un_idsLt 1 _, nx⟩
    · have h0 : c.after ≠ (0, 0, 0) := hpe ▸ h.id0 hp
      have ha : (c.ad == 0 && (c.as' == 0 && c.aa == 0)) = false := by
        cases hq : (c.ad == 0 && (c.as' == 0 && c.aa == 0)) with
        | false => rfl
        | true =>
          simp only [Bool.and_eq_true, beq_iff_eq] at hq
          exact absurd (show c.after = (0, 0, 0) by simp only [CE.after, hq.1, hq.2.1, hq.2.2]) h0
      rw [if_neg h0] at nx
      have hpt : p ∈ m.take i := by rw [hu]; simp
      have hlen : u1.length + 1 + u2.length = i := by
        have := congrArg List.length hu
        rw [List.length_take, Nat.min_eq_left hi] at this
        simp only [List.length_append, List.length_cons] at this
        omega
      have hF := find_c (m.take i) c.ad c.as' c.aa (by rw [List.length_take]; omega)
      have hfx : fX (pid c.ad c.as' c.aa) (m.take i) = some u1.length := by
        rw [hu]
        refine fX_at (show p.id = (c.ad, c.as', c.aa) from hpe) fun y hy e => ?_
        rw [hu] at hidt
        exact (List.pairwise_append.1 hidt).2.2 y hy p List.mem_cons_self (e.trans (show (c.ad, c.as', c.aa) = p.id from hpe.symm))
      rw [hfx] at hF
      have hpk : c.after ∈ (undL (m.take i)).map (·.1) := by rw [← hpe]; exact (hag p hpt).1
      have hA : ∀ j ∈ c.id :: aget (undL (m.take i)) c.after, InI j := fun j hj => by
        rcases List.mem_cons.1 hj with rfl | hj
        · exact hc.1
        · rw [← hpe] at hj; exact (hag p hpt).2 j hj
      have hnA : (c.id :: aget (undL (m.take i)) c.after).Nodup := by
        rw [List.nodup_cons, ← hpe]
        refine ⟨fun hm' => ?_, (und_ok _ hidt p hpt).2⟩
        obtain ⟨y, hy, e⟩ := List.mem_map.1 ((und_ok _ hidt p hpt).1 _ hm')
        exact hne y hy e
      have hR' := rg_run m (undL (m.take i)) i u1.length c (aget (undL (m.take i)) c.after) hA hnA
      have hI := in_run m (undL (m.take i)) (anE (c.id :: aget (undL (m.take i)) c.after)) i c hl hi hU (show InI c.after from hc.2) (u1.length + 1) (fun k x hk0 hk hx => by
        have hxt : (m.take i)[k]? = some x := by rw [List.getElem?_take, if_pos hk]; exact hx
        have hxm : x ∈ m.take i := List.mem_of_getElem? hxt
        have hx2 : x ∈ u2 := by
          rw [hu, List.getElem?_append_right (by omega), List.getElem?_cons, if_neg (by omega)] at hxt
          exact List.mem_of_getElem? hxt
        obtain ⟨⟨kk, hA'⟩, hg⟩ := h2 x hx2
        refine ⟨hidm x (hin x hxm), (hag x hxm).1, (hag x hxm).2, fun _ => ?_, hg⟩
        rw [← hpe]
        exact und_anc h (m.take i) (c :: m.drop (i + 1)) hsplit kk x p hxm hA') _ (u1.length + 1) rfl (Nat.le_refl _) (by omega)
      exact be_n m _ _ _ _ i c u1.length hl (by omega) (by omega) hx ha hN hF (un_get hU (show InI (c.ad, c.as', c.aa) from hc.2) hpk) hR' hI (un_put hU hc.1 hnew _) _ _
        ⟨⟨Int.le_refl _, by omega, by rw [encs_length]; omega⟩, un_idsLt 1 _, nx⟩

theorem below_h (l : List CE) (hR : OkRs l) : CallC P G 7 [ces l] [] (.ret (Am.bool true)) [] := by
  have hf := few_c l
  by_cases hF : l.length ≤ 40
  · rw [decide_eq_true hF] at hf
    have hO := order_c l (by omega) hR
    rcases forms_or l with ⟨h1, h2, h3⟩ | ⟨h1, h2, h3⟩
    · rw [h2, h3] at hO
      have hp := all_is h1
      have hok := (forms_iff.1 h1).1
      have := be_run hok rfl (fun x hx => hR x (hp.mem_iff.1 hx)) (by rw [hp.length_eq]; omega) _ 0 rfl (Nat.zero_le _)
      exact be_2 l (all l) hp.length_eq hf hO this trivial
    · rw [h2, h3] at hO
      exact be_1 l 130 (by decide) hf hO trivial
  · rw [decide_eq_false hF] at hf
    exact be_0 l hf trivial
end Go.Sq
