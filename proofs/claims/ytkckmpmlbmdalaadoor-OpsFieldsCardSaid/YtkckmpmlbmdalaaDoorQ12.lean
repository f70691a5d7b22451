import Derived.Test.YtkckmpmlbmdalaaDoorQ11
import Derived.KernelRfl
/- OPS, 8: the program's Decode. -/
namespace Go.Ops
set_option maxRecDepth 100000
set_option linter.unusedSimpArgs false
set_option linter.unusedVariables false
open Go Go.Am Go.Proofs Go.Seat Go.Vec Go.Cdc

theorem dec_x (b : List UInt8) (v : CV) (e : Int) (he : ¬ e = 0) (hd : CallC P G 22 [byt b] [] (.ret (.tup [val v, int e])) []) (h : True) : CallC P G 20 [byt b] [] (AOut.ret (AV.tup [op zop, int e])) [] := by
  have _ := h
  exact CallC.out ((show CallC P G 20 [byt b] [] (AOut.ret (AV.tup [AV.agg [int 0, int 0, int 0, nilS, int 0, str (ByteArray.mk #[]), int 0, int 0, int 0, int 0, int 0, int 0, int 0, str (ByteArray.mk #[]), str (ByteArray.mk #[]), int 0, Am.bool false], int e])) [] from callC_of [kc [] (@hd ), kt (show (e != 0) = true from (congrArg Bool.not (decide_eq_false (by omega))))] (by kernel_rfl))) (Sub.tups ⟨(Sub.aggs ⟨Sub.refl _, Sub.refl _, Sub.refl _, Sub.nil _, Sub.refl _, Sub.refl _, Sub.refl _, Sub.refl _, Sub.refl _, Sub.refl _, Sub.refl _, Sub.refl _, Sub.refl _, Sub.refl _, Sub.refl _, Sub.refl _, Sub.refl _, trivial⟩), Sub.refl _, trivial⟩)

def rcells (a b c : Int) (cx : AV) : List AV := [int a, int b, int c, cx, int 0, str ⟨#[]⟩, int 0, int 0, int 0, int 0, int 0, int 0, int 0, str ⟨#[]⟩, str ⟨#[]⟩, int 0, bool false]
def decE0 (b : List UInt8) : List AV := slots 104 [(0, byt b), (2, .ptr 0 0), (3, int 0), (5, .ptr 2 0), (6, .fn (.func 49) [.ptr 2 0] []), (7, .fn (.func 50) [.ptr 2 0] []), (8, .ptr 3 0)]
def decH (v : CV) (cx : AV) (C : List CV) (k : Nat) : List AObj := [.box (rcells (at_ v.l 0).n (at_ v.l 1).n (at_ v.l 2).n cx), .box (enc v), .box [.sl 4 false (encL (v.l.drop 4))], .box [.sl 4 false (encL (C.drop k))]]
def decSt0 (b : List UInt8) (v : CV) (C : List CV) : St := { env := decE0 b, H := decH v nilS C 0 }
def decSt1 (b : List UInt8) (v : CV) (C : List CV) (g : Nat) (ds : List D) (k : Nat) : St := { env := decE0 b, H := decH v (.own 5 g 0 ds.length) C k ++ [.gone, .arr g 2 false (encs ds)] }
def decD (c : CV) : D := ((at_ c.l 0).n, (at_ c.l 1).n)

theorem dl0_end (b : List UInt8) (v : CV) (C : List CV) (hC : C.length = 0) (h : True) : RunL P G none 0 (loopAt P 20 0) (decSt0 b v C) (AEx.exit 0) (St.mk (slots 104 [(0, byt b), (2, AV.ptr 0 0), (3, int 0), (5, AV.ptr 2 0), (6, AV.fn (Fn.func 49) [AV.ptr 2 0] []), (7, AV.fn (Fn.func 50) [AV.ptr 2 0] [])]) (decH v nilS C 0) []) := by
  have _ := h
  exact loop_exit [kv 45 (show Am.Sub (int (↑(List.length (encL (List.drop 0 C))) : Int)) (int (↑(List.length C - 0) : Int)) from (Sub.of_eq (by simp only [Go.Cdc.encL_length, List.length_drop]))), kf (show decide ((↑(List.length C - 0) : Int) > (0 : Int)) = false from (decide_eq_false (by omega)))] (others 104 [0, 2, 3, 5, 6, 7]) 4 (by kernel_rfl)

theorem dl1_end (b : List UInt8) (v : CV) (C : List CV) (g : Nat) (ds : List D) (k : Nat) (hC : C.length ≤ k) (h : True) : RunL P G none 0 (loopAt P 20 0) (decSt1 b v C g ds k) (AEx.exit 0) (St.mk (slots 104 [(0, byt b), (2, AV.ptr 0 0), (3, int 0), (5, AV.ptr 2 0), (6, AV.fn (Fn.func 49) [AV.ptr 2 0] []), (7, AV.fn (Fn.func 50) [AV.ptr 2 0] [])]) (decH v (AV.own 5 g 0 (List.length ds)) C k ++ [AObj.gone, AObj.arr g 2 false (encs ds)]) []) := by
  have _ := h
  exact loop_exit [kv 45 (show Am.Sub (int (↑(List.length (encL (List.drop k C))) : Int)) (int (↑(List.length C - k) : Int)) from (Sub.of_eq (by simp only [Go.Cdc.encL_length, List.length_drop]))), kf (show decide ((↑(List.length C - k) : Int) > (0 : Int)) = false from (decide_eq_false (by omega)))] (others 104 [0, 2, 3, 5, 6, 7]) 6 (by kernel_rfl)

theorem dl0_w (b : List UInt8) (v : CV) (C : List CV) (hC : 0 < C.length) (hl : C.length ≤ 1000000000) (hc : (at_ C 0).l.length ≤ 1000000000) (ex : AEx) (s' : St) (h : RunL P G none 0 (loopAt P 20 0) (St.mk (slots 104 [(0, AV.sl 1 false (bys b)), (2, AV.ptr 0 0), (3, int 0), (5, AV.ptr 2 0), (6, AV.fn (Fn.func 49) [AV.ptr 2 0] []), (7, AV.fn (Fn.func 50) [AV.ptr 2 0] []), (8, AV.ptr 3 0)]) [AObj.box [int (CV.n (at_ (CV.l v) 0)), int (CV.n (at_ (CV.l v) 1)), int (CV.n (at_ (CV.l v) 2)), AV.own 5 0 0 1, int 0, str (ByteArray.mk #[]), int 0, int 0, int 0, int 0, int 0, int 0, int 0, str (ByteArray.mk #[]), str (ByteArray.mk #[]), int 0, Am.bool false], AObj.box [int (CV.k v), int (CV.n v), str (CV.s v), AV.sl 4 false (encL (CV.l v))], AObj.box [AV.sl 4 false (encL (List.drop 4 (CV.l v)))], AObj.box [AV.sl 4 false (encL (List.drop 1 C))], AObj.box [AV.sl 4 false (encL (List.drop 2 (CV.l (at_ C 0))))], AObj.arr 0 2 false [[int (CV.n (at_ (CV.l (at_ C 0)) 0)), int (CV.n (at_ (CV.l (at_ C 0)) 1))]]] []) ex s') : RunL P G none 0 (loopAt P 20 0) (decSt0 b v C) ex s' := by
  exact loop_next [kv 45 (show Am.Sub (int (↑(List.length (encL (List.drop 0 C))) : Int)) (int (↑(List.length C - 0) : Int)) from (Sub.of_eq (by simp only [Go.Cdc.encL_length, List.length_drop]))), kt (show decide ((↑(List.length C - 0) : Int) > (0 : Int)) = true from (decide_eq_true (by omega))), kc [3] (@Go.Ops.lst_i (C) (0) (by omega)), kc [4] (@Go.Ops.num0_c (CV.l (at_ C 0)) (by omega)), kc [4] (@Go.Ops.num_i (CV.l (at_ C 0)) (1) (by omega)), kp (show [[int (CV.n (at_ (CV.l (at_ C 0)) 0)), int (CV.n (at_ (CV.l (at_ C 0)) 1))]] ≠ [] from (by simp)), kp (show 16 ≤ 140737488355328 from (by omega))] (others 104 [0, 2, 3, 5, 6, 7, 8]) 6 h (by kernel_rfl)

theorem dl1_w (b : List UInt8) (v : CV) (C : List CV) (g : Nat) (ds : List D) (k : Nat) (hC : k < C.length) (hl : C.length ≤ 1000000000) (hd : ds.length ≤ 1000000000) (hc : (at_ C k).l.length ≤ 1000000000) (ex : AEx) (s' : St) (h : ((∀ (x : List AV), x ∈ encs ds ++ chunks (TypeInfo.size (Tables.types (Program.toTables P))[23]) 1 (splice (zerosA (List.map AV.lit (Array.toList (Value.cells (Value.agg #[Value.int IntKind.i64 0, Value.int IntKind.i64 0])))) (1 * TypeInfo.size (Tables.types (Program.toTables P))[23])) (0 * TypeInfo.size (Tables.types (Program.toTables P))[23]) (splice (splice (List.map AV.lit (Array.toList (Value.cells (Value.agg #[Value.int IntKind.i64 0, Value.int IntKind.i64 0])))) 0 [int (CV.n (at_ (CV.l (at_ C k)) 0))]) 1 [int (CV.n (at_ (CV.l (at_ C k)) 1))])) → AV.idsInL [] x = true) ∧ RunL P G none 0 (loopAt P 20 0) (St.mk (slots 104 [(0, AV.sl 1 false (bys b)), (2, AV.ptr 0 0), (3, int 0), (5, AV.ptr 2 0), (6, AV.fn (Fn.func 49) [AV.ptr 2 0] []), (7, AV.fn (Fn.func 50) [AV.ptr 2 0] []), (8, AV.ptr 3 0)]) [AObj.box [int (CV.n (at_ (CV.l v) 0)), int (CV.n (at_ (CV.l v) 1)), int (CV.n (at_ (CV.l v) 2)), AV.own 5 (g + 1) 0 (List.length ds + 1), int 0, str (ByteArray.mk #[]), int 0, int 0, int 0, int 0, int 0, int 0, int 0, str (ByteArray.mk #[]), str (ByteArray.mk #[]), int 0, Am.bool false], AObj.box [int (CV.k v), int (CV.n v), str (CV.s v), AV.sl 4 false (encL (CV.l v))], AObj.box [AV.sl 4 false (encL (List.drop 4 (CV.l v)))], AObj.box [AV.sl 4 false (encL (List.drop (k + 1) C))], AObj.gone, AObj.arr (g + 1) 2 false (encs ds ++ [[int (CV.n (at_ (CV.l (at_ C k)) 0)), int (CV.n (at_ (CV.l (at_ C k)) 1))]])] []) ex s')) : RunL P G none 0 (loopAt P 20 0) (decSt1 b v C g ds k) ex s' := by
  obtain ⟨o2, h⟩ := h
  exact loop_next [kv 45 (show Am.Sub (int (↑(List.length (encL (List.drop k C))) : Int)) (int (↑(List.length C - k) : Int)) from (Sub.of_eq (by simp only [Go.Cdc.encL_length, List.length_drop]))), kt (show decide ((↑(List.length C - k) : Int) > (0 : Int)) = true from (decide_eq_true (by omega))), kc [3] (@Go.Ops.lst_i (C) (k) (by omega)), kc [6] (@Go.Ops.num0_c (CV.l (at_ C k)) (by omega)), kc [6] (@Go.Ops.num_i (CV.l (at_ C k)) (1) (by omega)), kp (show g = g from (rfl)), kp (show List.length ds = List.length (encs ds) from ((Go.Vec.encs_length _).symm)), kp (show (List.length ds + 1) * 16 ≤ 140737488355328 from (by omega)), kp o2] (others 104 [0, 2, 3, 5, 6, 7, 8]) 6 h (by kernel_rfl)

abbrev decX (b : List UInt8) : List AV := slots 104 [(0, byt b), (2, .ptr 0 0), (3, int 0), (5, .ptr 2 0), (6, .fn (.func 49) [.ptr 2 0] []), (7, .fn (.func 50) [.ptr 2 0] [])]
theorem decD_cons {C : List CV} {k : Nat} (h : k < C.length) : (C.take (k + 1)).map decD = (C.take k).map decD ++ [decD (at_ C k)] := by
  have e : at_ C k = C[k] := by unfold at_; rw [List.drop_eq_getElem_cons h]; rfl
  rw [List.take_add_one, List.getElem?_eq_getElem h, List.map_append, e]; rfl
theorem dl1_loop (b : List UInt8) (v : CV) (C : List CV) (hl : C.length ≤ 1000000000) (hc : ∀ k, (at_ C k).l.length ≤ 1000000000) : ∀ (m k g : Nat), C.length - k = m → k ≤ C.length →
    ∃ g' k', RunL P G none 0 (loopAt P 20 0) (decSt1 b v C g ((C.take k).map decD) k) (.exit 0) { env := decX b, H := decH v (.own 5 g' 0 (C.map decD).length) C k' ++ [.gone, .arr g' 2 false (encs (C.map decD))] } := by
  intro m
  induction m with
  | zero =>
    intro k g hm hk
    have e : C.take k = C := List.take_of_length_le (by omega)
    rw [e]
    exact ⟨g, k, dl1_end b v C g _ k (by omega) trivial⟩
  | succ m ih =>
    intro k g hm hk
    have hlt : k < C.length := by omega
    obtain ⟨g', k', h⟩ := ih (k + 1) (g + 1) (by omega) (by omega)
    refine ⟨g', k', dl1_w b v C g _ k hlt hl (by simp; omega) (hc k) _ _ ⟨fun x hx => ?_, ?_⟩⟩
    · rcases List.mem_append.1 hx with hx | hx
      · exact encs_ids _ x hx
      · have : x = Vec.enc (decD (at_ C k)) := List.mem_singleton.1 hx
        subst this; rfl
    · rw [decD_cons hlt] at h
      unfold decSt1 at h
      rw [← encs_append, List.length_append] at h
      exact h
/-- Behind the loop: the context, as data. -/
def decT (v : CV) (ds : List D) : List AObj := [.box (rcells (at_ v.l 0).n (at_ v.l 1).n (at_ v.l 2).n (vec ds)), .box (Cdc.enc v), .box [.sl 4 false (encL (v.l.drop 4))], .gone]
theorem dl_c (b : List UInt8) (v : CV) (C : List CV) (hl : C.length ≤ 1000000000) (hc : ∀ k, (at_ C k).l.length ≤ 1000000000) :
    RunL P G none 0 (loopAt P 20 0) (decSt0 b v C) (.exit 0) { env := decX b, H := decT v (C.map decD) } ∨
    RunL P G none 0 (loopAt P 20 0) (decSt0 b v C) (.exit 0) { env := decX b, H := decT v (C.map decD) ++ [.gone, .gone] } := by
  by_cases h0 : C.length = 0
  · have e : C = [] := List.eq_nil_of_length_eq_zero h0
    refine .inl (RunL.postH (dl0_end b v C h0 trivial) ⟨.inr ⟨rfl, fun j hj => ?_⟩, .inl rfl, .inl rfl, .inr trivial, trivial⟩)
    subst e
    match j, hj with
    | 3, _ => exact Sub.nil 2
    | 0, _ | 1, _ | 2, _ | 4, _ | 5, _ | 6, _ | 7, _ | 8, _ | 9, _ | 10, _ | 11, _ | 12, _ | 13, _ | 14, _ | 15, _ | 16, _ => exact Sub.refl _
    | j + 17, h => exact absurd h (by simp [rcells])
  · have hlt : 0 < C.length := by omega
    obtain ⟨g', k', h⟩ := dl1_loop b v C hl hc (C.length - 1) 1 0 rfl (by omega)
    have h1 : RunL P G none 0 (loopAt P 20 0) (decSt0 b v C) (.exit 0) { env := decX b, H := decH v (.own 5 g' 0 (C.map decD).length) C k' ++ [.gone, .arr g' 2 false (encs (C.map decD))] } := by
      refine dl0_w b v C hlt hl (hc 0) _ _ ?_
      have e : (C.take 1).map decD = [decD (at_ C 0)] := by
        have := decD_cons hlt
        simpa using this
      rw [e] at h
      exact RunL.preH h ⟨.inl rfl, .inl rfl, .inl rfl, .inl rfl, .inr trivial, .inl rfl, trivial⟩
    have ha : evalFrz (decH v (.own 5 g' 0 (C.map decD).length) C k' ++ [.gone, .arr g' 2 false (encs (C.map decD))]) (.own 5 g' 0 (C.map decD).length) (encs (C.map decD)) =
        some (.sl 2 false (encs (C.map decD)), decH v (.own 5 g' 0 (C.map decD).length) C k' ++ [.gone, .arr g' 2 true (encs (C.map decD))],
          [g' = g', List.take (C.map decD).length (List.drop 0 (encs (C.map decD))) = encs (C.map decD), (encs (C.map decD)).length = (C.map decD).length, ∀ c ∈ encs (C.map decD), c.all AV.pureB = true]) := rfl
    have h2 := RunL.frzBox (b := 0) (j := 3) (cells := rcells (at_ v.l 0).n (at_ v.l 1).n (at_ v.l 2).n (.own 5 g' 0 (C.map decD).length)) h1 rfl rfl rfl ha ⟨rfl, encs_all _, encs_length _, encs_pure _, trivial⟩
    exact .inr (RunL.postH h2 ⟨.inl rfl, .inl rfl, .inl rfl, .inr trivial, .inr trivial, .inr trivial, trivial⟩)

/-- The operation of a list of values, whatever these are. -/
def decO (L : List CV) : OP := ⟨(at_ L 0).n, (at_ L 1).n, (at_ L 2).n, (at_ L 3).l.map decD, (at_ (at_ L 4).l 0).n, (at_ (at_ L 4).l 1).s, (at_ L 5).n, (at_ (at_ L 6).l 0).n, (at_ (at_ L 6).l 1).n, (at_ (at_ L 6).l 2).n,
  (at_ (at_ L 7).l 0).n, (at_ (at_ L 7).l 1).n, (at_ (at_ L 7).l 2).n, (at_ L 8).s, (at_ L 9).s, (at_ L 10).n, (at_ L 11).n == 1⟩

theorem dec_w0 (b : List UInt8) (v : CV) (e : Int) (c : List UInt8) (hl : v.l.length ≤ 1000000000) (hl3 : (at_ v.l 3).l.length ≤ 1000000000) (hl4 : (at_ v.l 4).l.length ≤ 1000000000) (hl6 : (at_ v.l 6).l.length ≤ 1000000000) (hl7 : (at_ v.l 7).l.length ≤ 1000000000) (hd : CallC P G 22 [byt b] [] (.ret (.tup [val v, int 0])) []) (hL : RunL P G none 0 (loopAt P 20 0) (decSt0 b v (at_ v.l 3).l) (.exit 0) { env := decX b, H := decT v ((at_ v.l 3).l.map decD) }) (hE : CallC P G 18 [op (decO v.l)] [] (.ret (.tup [byt c, int e])) []) (r : AV) (h : (((e = (0 : Int)) → (((b = c) → Sub (AV.tup [AV.agg [int (CV.n (at_ (CV.l v) 0)), int (CV.n (at_ (CV.l v) 1)), int (CV.n (at_ (CV.l v) 2)), AV.sl 2 false (encs (List.map decD (CV.l (at_ (CV.l v) 3)))), int (CV.n (at_ (CV.l (at_ (CV.l v) 4)) 0)), str (CV.s (at_ (CV.l (at_ (CV.l v) 4)) 1)), int (CV.n (at_ (CV.l v) 5)), int (CV.n (at_ (CV.l (at_ (CV.l v) 6)) 0)), int (CV.n (at_ (CV.l (at_ (CV.l v) 6)) 1)), int (CV.n (at_ (CV.l (at_ (CV.l v) 6)) 2)), int (CV.n (at_ (CV.l (at_ (CV.l v) 7)) 0)), int (CV.n (at_ (CV.l (at_ (CV.l v) 7)) 1)), int (CV.n (at_ (CV.l (at_ (CV.l v) 7)) 2)), str (CV.s (at_ (CV.l v) 8)), str (CV.s (at_ (CV.l v) 9)), int (CV.n (at_ (CV.l v) 10)), Am.bool (CV.n (at_ (CV.l v) 11) == 1)], int 0]) (r)) ∧ ((¬b = c) → Sub (AV.tup [AV.agg [int 0, int 0, int 0, nilS, int 0, str (ByteArray.mk #[]), int 0, int 0, int 0, int 0, int 0, int 0, int 0, str (ByteArray.mk #[]), str (ByteArray.mk #[]), int 0, Am.bool false], int 170]) (r)))) ∧ ((¬e = (0 : Int)) → Sub (AV.tup [AV.agg [int 0, int 0, int 0, nilS, int 0, str (ByteArray.mk #[]), int 0, int 0, int 0, int 0, int 0, int 0, int 0, str (ByteArray.mk #[]), str (ByteArray.mk #[]), int 0, Am.bool false], int 170]) (r)))) : CallC P G 20 [byt b] [] (AOut.ret r) [] := by
  have hz0 := (@hd )
  have hz1 := (@Go.Ops.num0_c (CV.l v) (by omega))
  have hz2 := (@Go.Ops.num_i (CV.l v) (1) (by omega))
  have hz3 := (@Go.Ops.num_i (CV.l v) (2) (by omega))
  have hz4 := (@Go.Ops.lst_i (CV.l v) (3) (by omega))
  have hz5 := (@hL )
  have hz6 := (@Go.Ops.lst_i (CV.l v) (4) (by omega))
  have hz7 := (@Go.Ops.num0_c (CV.l (at_ (CV.l v) 4)) (by omega))
  have hz8 := (@Go.Ops.txt_i (CV.l (at_ (CV.l v) 4)) (1) (by omega))
  have hz9 := (@Go.Ops.num_i (CV.l v) (5) (by omega))
  have hz10 := (@Go.Ops.id_i (CV.l v) (6) (by omega) (by omega))
  have hz11 := (@Go.Ops.id_i (CV.l v) (7) (by omega) (by omega))
  have hz12 := (@Go.Ops.txt_i (CV.l v) (8) (by omega))
  have hz13 := (@Go.Ops.txt_i (CV.l v) (9) (by omega))
  have hz14 := (@Go.Ops.num_i (CV.l v) (10) (by omega))
  have hz15 := (@Go.Ops.num_i (CV.l v) (11) (by omega))
  have hz16 := (@hE )
  have hz18 := (@Go.Ops.bEq_c (b) (c))
  by_cases c1 : (e = (0 : Int))
  · have h := h.1 c1
    have hz17 : (e != 0) = false := (congrArg Bool.not (beq_iff_eq.2 c1))
    by_cases c2 : (b = c)
    · have h := h.1 c2
      have e1 := h
      exact CallC.out ((show CallC P G 20 [byt b] [] (AOut.ret (AV.tup [AV.agg [int (CV.n (at_ (CV.l v) 0)), int (CV.n (at_ (CV.l v) 1)), int (CV.n (at_ (CV.l v) 2)), AV.sl 2 false (encs (List.map decD (CV.l (at_ (CV.l v) 3)))), int (CV.n (at_ (CV.l (at_ (CV.l v) 4)) 0)), str (CV.s (at_ (CV.l (at_ (CV.l v) 4)) 1)), int (CV.n (at_ (CV.l v) 5)), int (CV.n (at_ (CV.l (at_ (CV.l v) 6)) 0)), int (CV.n (at_ (CV.l (at_ (CV.l v) 6)) 1)), int (CV.n (at_ (CV.l (at_ (CV.l v) 6)) 2)), int (CV.n (at_ (CV.l (at_ (CV.l v) 7)) 0)), int (CV.n (at_ (CV.l (at_ (CV.l v) 7)) 1)), int (CV.n (at_ (CV.l (at_ (CV.l v) 7)) 2)), str (CV.s (at_ (CV.l v) 8)), str (CV.s (at_ (CV.l v) 9)), int (CV.n (at_ (CV.l v) 10)), Am.bool (CV.n (at_ (CV.l v) 11) == 1)], int 0])) [] from callC_of [kc [] hz0, kf (Eq.refl false), kc [2] hz1, kc [2] hz2, kc [2] hz3, kc [2] hz4, kl [1, 4, 9, 10, 11, 12, 13, 14, 15, 16, 17, 18, 19, 20, 21, 22, 23, 24, 25, 26, 27, 28, 29, 30, 31, 32, 33, 34, 35, 36, 37, 38, 39, 40, 41, 42, 43, 44, 45, 46, 47, 48, 49, 50, 51, 52, 53, 54, 55, 56, 57, 58, 59, 60, 61, 62, 63, 64, 65, 66, 67, 68, 69, 70, 71, 72, 73, 74, 75, 76, 77, 78, 79, 80, 81, 82, 83, 84, 85, 86, 87, 88, 89, 90, 91, 92, 93, 94, 95, 96, 97, 98, 99, 100, 101, 102, 103] 4 hz5, kc [2] hz6, kc [4] hz7, kc [4] hz8, kc [2] hz9, kc [2] hz10, kc [2] hz11, kc [2] hz12, kc [2] hz13, kc [2] hz14, kc [2] hz15, kc [] hz16, kf hz17, kc [] hz18, kf (show (!decide (b = c)) = false from (congrArg Bool.not (decide_eq_true c2)))] (by kernel_rfl))) e1
    · have h := h.2 c2
      have e1 := h
      exact CallC.out ((show CallC P G 20 [byt b] [] (AOut.ret (AV.tup [AV.agg [int 0, int 0, int 0, nilS, int 0, str (ByteArray.mk #[]), int 0, int 0, int 0, int 0, int 0, int 0, int 0, str (ByteArray.mk #[]), str (ByteArray.mk #[]), int 0, Am.bool false], int 170])) [] from callC_of [kc [] hz0, kf (Eq.refl false), kc [2] hz1, kc [2] hz2, kc [2] hz3, kc [2] hz4, kl [1, 4, 9, 10, 11, 12, 13, 14, 15, 16, 17, 18, 19, 20, 21, 22, 23, 24, 25, 26, 27, 28, 29, 30, 31, 32, 33, 34, 35, 36, 37, 38, 39, 40, 41, 42, 43, 44, 45, 46, 47, 48, 49, 50, 51, 52, 53, 54, 55, 56, 57, 58, 59, 60, 61, 62, 63, 64, 65, 66, 67, 68, 69, 70, 71, 72, 73, 74, 75, 76, 77, 78, 79, 80, 81, 82, 83, 84, 85, 86, 87, 88, 89, 90, 91, 92, 93, 94, 95, 96, 97, 98, 99, 100, 101, 102, 103] 4 hz5, kc [2] hz6, kc [4] hz7, kc [4] hz8, kc [2] hz9, kc [2] hz10, kc [2] hz11, kc [2] hz12, kc [2] hz13, kc [2] hz14, kc [2] hz15, kc [] hz16, kf hz17, kc [] hz18, kt (show (!decide (b = c)) = true from (congrArg Bool.not (decide_eq_false c2)))] (by kernel_rfl))) e1
  · have h := h.2 c1
    have e1 := h
    exact CallC.out ((show CallC P G 20 [byt b] [] (AOut.ret (AV.tup [AV.agg [int 0, int 0, int 0, nilS, int 0, str (ByteArray.mk #[]), int 0, int 0, int 0, int 0, int 0, int 0, int 0, str (ByteArray.mk #[]), str (ByteArray.mk #[]), int 0, Am.bool false], int 170])) [] from callC_of [kc [] hz0, kf (Eq.refl false), kc [2] hz1, kc [2] hz2, kc [2] hz3, kc [2] hz4, kl [1, 4, 9, 10, 11, 12, 13, 14, 15, 16, 17, 18, 19, 20, 21, 22, 23, 24, 25, 26, 27, 28, 29, 30, 31, 32, 33, 34, 35, 36, 37, 38, 39, 40, 41, 42, 43, 44, 45, 46, 47, 48, 49, 50, 51, 52, 53, 54, 55, 56, 57, 58, 59, 60, 61, 62, 63, 64, 65, 66, 67, 68, 69, 70, 71, 72, 73, 74, 75, 76, 77, 78, 79, 80, 81, 82, 83, 84, 85, 86, 87, 88, 89, 90, 91, 92, 93, 94, 95, 96, 97, 98, 99, 100, 101, 102, 103] 4 hz5, kc [2] hz6, kc [4] hz7, kc [4] hz8, kc [2] hz9, kc [2] hz10, kc [2] hz11, kc [2] hz12, kc [2] hz13, kc [2] hz14, kc [2] hz15, kc [] hz16, kt (show (e != 0) = true from (congrArg Bool.not (beq_eq_false_iff_ne.2 c1))), kt (Eq.refl true)] (by kernel_rfl))) e1

theorem dec_w1 (b : List UInt8) (v : CV) (e : Int) (c : List UInt8) (hl : v.l.length ≤ 1000000000) (hl3 : (at_ v.l 3).l.length ≤ 1000000000) (hl4 : (at_ v.l 4).l.length ≤ 1000000000) (hl6 : (at_ v.l 6).l.length ≤ 1000000000) (hl7 : (at_ v.l 7).l.length ≤ 1000000000) (hd : CallC P G 22 [byt b] [] (.ret (.tup [val v, int 0])) []) (hL : RunL P G none 0 (loopAt P 20 0) (decSt0 b v (at_ v.l 3).l) (.exit 0) { env := decX b, H := decT v ((at_ v.l 3).l.map decD) ++ [.gone, .gone] }) (hE : CallC P G 18 [op (decO v.l)] [] (.ret (.tup [byt c, int e])) []) (r : AV) (h : (((e = (0 : Int)) → (((b = c) → Sub (AV.tup [AV.agg [int (CV.n (at_ (CV.l v) 0)), int (CV.n (at_ (CV.l v) 1)), int (CV.n (at_ (CV.l v) 2)), AV.sl 2 false (encs (List.map decD (CV.l (at_ (CV.l v) 3)))), int (CV.n (at_ (CV.l (at_ (CV.l v) 4)) 0)), str (CV.s (at_ (CV.l (at_ (CV.l v) 4)) 1)), int (CV.n (at_ (CV.l v) 5)), int (CV.n (at_ (CV.l (at_ (CV.l v) 6)) 0)), int (CV.n (at_ (CV.l (at_ (CV.l v) 6)) 1)), int (CV.n (at_ (CV.l (at_ (CV.l v) 6)) 2)), int (CV.n (at_ (CV.l (at_ (CV.l v) 7)) 0)), int (CV.n (at_ (CV.l (at_ (CV.l v) 7)) 1)), int (CV.n (at_ (CV.l (at_ (CV.l v) 7)) 2)), str (CV.s (at_ (CV.l v) 8)), str (CV.s (at_ (CV.l v) 9)), int (CV.n (at_ (CV.l v) 10)), Am.bool (CV.n (at_ (CV.l v) 11) == 1)], int 0]) (r)) ∧ ((¬b = c) → Sub (AV.tup [AV.agg [int 0, int 0, int 0, nilS, int 0, str (ByteArray.mk #[]), int 0, int 0, int 0, int 0, int 0, int 0, int 0, str (ByteArray.mk #[]), str (ByteArray.mk #[]), int 0, Am.bool false], int 170]) (r)))) ∧ ((¬e = (0 : Int)) → Sub (AV.tup [AV.agg [int 0, int 0, int 0, nilS, int 0, str (ByteArray.mk #[]), int 0, int 0, int 0, int 0, int 0, int 0, int 0, str (ByteArray.mk #[]), str (ByteArray.mk #[]), int 0, Am.bool false], int 170]) (r)))) : CallC P G 20 [byt b] [] (AOut.ret r) [] := by
  have hz0 := (@hd )
  have hz1 := (@Go.Ops.num0_c (CV.l v) (by omega))
  have hz2 := (@Go.Ops.num_i (CV.l v) (1) (by omega))
  have hz3 := (@Go.Ops.num_i (CV.l v) (2) (by omega))
  have hz4 := (@Go.Ops.lst_i (CV.l v) (3) (by omega))
  have hz5 := (@hL )
  have hz6 := (@Go.Ops.lst_i (CV.l v) (4) (by omega))
  have hz7 := (@Go.Ops.num0_c (CV.l (at_ (CV.l v) 4)) (by omega))
  have hz8 := (@Go.Ops.txt_i (CV.l (at_ (CV.l v) 4)) (1) (by omega))
  have hz9 := (@Go.Ops.num_i (CV.l v) (5) (by omega))
  have hz10 := (@Go.Ops.id_i (CV.l v) (6) (by omega) (by omega))
  have hz11 := (@Go.Ops.id_i (CV.l v) (7) (by omega) (by omega))
  have hz12 := (@Go.Ops.txt_i (CV.l v) (8) (by omega))
  have hz13 := (@Go.Ops.txt_i (CV.l v) (9) (by omega))
  have hz14 := (@Go.Ops.num_i (CV.l v) (10) (by omega))
  have hz15 := (@Go.Ops.num_i (CV.l v) (11) (by omega))
  have hz16 := (@hE )
  have hz18 := (@Go.Ops.bEq_c (b) (c))
  by_cases c1 : (e = (0 : Int))
  · have h := h.1 c1
    have hz17 : (e != 0) = false := (congrArg Bool.not (beq_iff_eq.2 c1))
    by_cases c2 : (b = c)
    · have h := h.1 c2
      have e1 := h
      exact CallC.out ((show CallC P G 20 [byt b] [] (AOut.ret (AV.tup [AV.agg [int (CV.n (at_ (CV.l v) 0)), int (CV.n (at_ (CV.l v) 1)), int (CV.n (at_ (CV.l v) 2)), AV.sl 2 false (encs (List.map decD (CV.l (at_ (CV.l v) 3)))), int (CV.n (at_ (CV.l (at_ (CV.l v) 4)) 0)), str (CV.s (at_ (CV.l (at_ (CV.l v) 4)) 1)), int (CV.n (at_ (CV.l v) 5)), int (CV.n (at_ (CV.l (at_ (CV.l v) 6)) 0)), int (CV.n (at_ (CV.l (at_ (CV.l v) 6)) 1)), int (CV.n (at_ (CV.l (at_ (CV.l v) 6)) 2)), int (CV.n (at_ (CV.l (at_ (CV.l v) 7)) 0)), int (CV.n (at_ (CV.l (at_ (CV.l v) 7)) 1)), int (CV.n (at_ (CV.l (at_ (CV.l v) 7)) 2)), str (CV.s (at_ (CV.l v) 8)), str (CV.s (at_ (CV.l v) 9)), int (CV.n (at_ (CV.l v) 10)), Am.bool (CV.n (at_ (CV.l v) 11) == 1)], int 0])) [] from callC_of [kc [] hz0, kf (Eq.refl false), kc [2] hz1, kc [2] hz2, kc [2] hz3, kc [2] hz4, kl [1, 4, 9, 10, 11, 12, 13, 14, 15, 16, 17, 18, 19, 20, 21, 22, 23, 24, 25, 26, 27, 28, 29, 30, 31, 32, 33, 34, 35, 36, 37, 38, 39, 40, 41, 42, 43, 44, 45, 46, 47, 48, 49, 50, 51, 52, 53, 54, 55, 56, 57, 58, 59, 60, 61, 62, 63, 64, 65, 66, 67, 68, 69, 70, 71, 72, 73, 74, 75, 76, 77, 78, 79, 80, 81, 82, 83, 84, 85, 86, 87, 88, 89, 90, 91, 92, 93, 94, 95, 96, 97, 98, 99, 100, 101, 102, 103] 4 hz5, kc [2] hz6, kc [6] hz7, kc [6] hz8, kc [2] hz9, kc [2] hz10, kc [2] hz11, kc [2] hz12, kc [2] hz13, kc [2] hz14, kc [2] hz15, kc [] hz16, kf hz17, kc [] hz18, kf (show (!decide (b = c)) = false from (congrArg Bool.not (decide_eq_true c2)))] (by kernel_rfl))) e1
    · have h := h.2 c2
      have e1 := h
      exact CallC.out ((show CallC P G 20 [byt b] [] (AOut.ret (AV.tup [AV.agg [int 0, int 0, int 0, nilS, int 0, str (ByteArray.mk #[]), int 0, int 0, int 0, int 0, int 0, int 0, int 0, str (ByteArray.mk #[]), str (ByteArray.mk #[]), int 0, Am.bool false], int 170])) [] from callC_of [kc [] hz0, kf (Eq.refl false), kc [2] hz1, kc [2] hz2, kc [2] hz3, kc [2] hz4, kl [1, 4, 9, 10, 11, 12, 13, 14, 15, 16, 17, 18, 19, 20, 21, 22, 23, 24, 25, 26, 27, 28, 29, 30, 31, 32, 33, 34, 35, 36, 37, 38, 39, 40, 41, 42, 43, 44, 45, 46, 47, 48, 49, 50, 51, 52, 53, 54, 55, 56, 57, 58, 59, 60, 61, 62, 63, 64, 65, 66, 67, 68, 69, 70, 71, 72, 73, 74, 75, 76, 77, 78, 79, 80, 81, 82, 83, 84, 85, 86, 87, 88, 89, 90, 91, 92, 93, 94, 95, 96, 97, 98, 99, 100, 101, 102, 103] 4 hz5, kc [2] hz6, kc [6] hz7, kc [6] hz8, kc [2] hz9, kc [2] hz10, kc [2] hz11, kc [2] hz12, kc [2] hz13, kc [2] hz14, kc [2] hz15, kc [] hz16, kf hz17, kc [] hz18, kt (show (!decide (b = c)) = true from (congrArg Bool.not (decide_eq_false c2)))] (by kernel_rfl))) e1
  · have h := h.2 c1
    have e1 := h
    exact CallC.out ((show CallC P G 20 [byt b] [] (AOut.ret (AV.tup [AV.agg [int 0, int 0, int 0, nilS, int 0, str (ByteArray.mk #[]), int 0, int 0, int 0, int 0, int 0, int 0, int 0, str (ByteArray.mk #[]), str (ByteArray.mk #[]), int 0, Am.bool false], int 170])) [] from callC_of [kc [] hz0, kf (Eq.refl false), kc [2] hz1, kc [2] hz2, kc [2] hz3, kc [2] hz4, kl [1, 4, 9, 10, 11, 12, 13, 14, 15, 16, 17, 18, 19, 20, 21, 22, 23, 24, 25, 26, 27, 28, 29, 30, 31, 32, 33, 34, 35, 36, 37, 38, 39, 40, 41, 42, 43, 44, 45, 46, 47, 48, 49, 50, 51, 52, 53, 54, 55, 56, 57, 58, 59, 60, 61, 62, 63, 64, 65, 66, 67, 68, 69, 70, 71, 72, 73, 74, 75, 76, 77, 78, 79, 80, 81, 82, 83, 84, 85, 86, 87, 88, 89, 90, 91, 92, 93, 94, 95, 96, 97, 98, 99, 100, 101, 102, 103] 4 hz5, kc [2] hz6, kc [6] hz7, kc [6] hz8, kc [2] hz9, kc [2] hz10, kc [2] hz11, kc [2] hz12, kc [2] hz13, kc [2] hz14, kc [2] hz15, kc [] hz16, kt (show (e != 0) = true from (congrArg Bool.not (beq_eq_false_iff_ne.2 c1))), kt (Eq.refl true)] (by kernel_rfl))) e1

/-- What Decode answers. -/
def decR (b : List UInt8) (v : CV) (e : Int) (c : List UInt8) : OP × Int := if e = 0 ∧ b = c then (decO v.l, 0) else (zop, 170)
theorem zopS : Sub (AV.tup [AV.agg [int 0, int 0, int 0, nilS, int 0, str ⟨#[]⟩, int 0, int 0, int 0, int 0, int 0, int 0, int 0, str ⟨#[]⟩, str ⟨#[]⟩, int 0, Am.bool false], int 170]) (AV.tup [op zop, int 170]) :=
  Sub.tups ⟨Sub.aggs ⟨Sub.refl _, Sub.refl _, Sub.refl _, Sub.nil 2, Sub.refl _, Sub.refl _, Sub.refl _, Sub.refl _, Sub.refl _, Sub.refl _, Sub.refl _, Sub.refl _, Sub.refl _, Sub.refl _, Sub.refl _, Sub.refl _, Sub.refl _, trivial⟩, Sub.refl _, trivial⟩
theorem dec_c (b : List UInt8) (v : CV) (e : Int) (c : List UInt8) (hl : v.l.length ≤ 1000000000) (hl2 : ∀ k, (at_ v.l k).l.length ≤ 1000000000) (hl3 : ∀ k, (at_ (at_ v.l 3).l k).l.length ≤ 1000000000) (hd : CallC P G 22 [byt b] [] (.ret (.tup [val v, int 0])) [])
    (hE : CallC P G 18 [op (decO v.l)] [] (.ret (.tup [byt c, int e])) []) : CallC P G 20 [byt b] [] (.ret (.tup [op (decR b v e c).1, int (decR b v e c).2])) [] := by
  have fin : (((e = (0 : Int)) → (((b = c) → Sub (AV.tup [op (decO v.l), int 0]) (AV.tup [op (decR b v e c).1, int (decR b v e c).2])) ∧ ((¬b = c) → Sub (AV.tup [AV.agg [int 0, int 0, int 0, nilS, int 0, str ⟨#[]⟩, int 0, int 0, int 0, int 0, int 0, int 0, int 0, str ⟨#[]⟩, str ⟨#[]⟩, int 0, Am.bool false], int 170]) (AV.tup [op (decR b v e c).1, int (decR b v e c).2])))) ∧
      ((¬e = (0 : Int)) → Sub (AV.tup [AV.agg [int 0, int 0, int 0, nilS, int 0, str ⟨#[]⟩, int 0, int 0, int 0, int 0, int 0, int 0, int 0, str ⟨#[]⟩, str ⟨#[]⟩, int 0, Am.bool false], int 170]) (AV.tup [op (decR b v e c).1, int (decR b v e c).2]))) := by
    unfold decR
    refine ⟨fun h1 => ⟨fun h2 => ?_, fun h2 => ?_⟩, fun h1 => ?_⟩
    · rw [if_pos ⟨h1, h2⟩]; exact Sub.refl _
    · rw [if_neg (fun q => h2 q.2)]; exact zopS
    · rw [if_neg (fun q => h1 q.1)]; exact zopS
  rcases dl_c b v (at_ v.l 3).l (hl2 3) hl3 with h | h
  · exact dec_w0 b v e c hl (hl2 3) (hl2 4) (hl2 6) (hl2 7) hd h hE _ fin
  · exact dec_w1 b v e c hl (hl2 3) (hl2 4) (hl2 6) (hl2 7) hd h hE _ fin

end Go.Ops

/- VECTOR, 2: what the reference's Join, Meet, Compare and With do. -/
namespace Go.Vec
set_option maxRecDepth 100000
set_option linter.unusedSimpArgs false
set_option linter.unusedVariables false
open Go Go.Am Go.Proofs Go.Seat

def check2E (a b : List D) : Int := if checkE a = 0 then checkE b else checkE a

theorem check2_w (a b : List D) (ha : a.length ≤ 1000000000) (hb : b.length ≤ 1000000000) (h : (((checkE a = (0 : Int)) → (checkE b : Int) = (check2E a b)) ∧ ((¬checkE a = (0 : Int)) → (checkE a : Int) = (check2E a b)))) : CallC P G 81 [vec a, vec b] [] (AOut.ret (int (check2E a b))) [] := by
  have hz0 := (@Go.Vec.check_c (a) (by omega))
  by_cases c1 : (checkE a = (0 : Int))
  · have h := h.1 c1
    have e1 := h
    exact callC_out (Sub.int_eq e1) [kc [] hz0, kf (show (checkE a != 0) = false from (congrArg Bool.not (beq_iff_eq.2 c1))), kc [] (@Go.Vec.check_c (b) (by omega))] (by kernel_rfl)
  · have h := h.2 c1
    have e1 := h
    exact callC_out (Sub.int_eq e1) [kc [] hz0, kt (show (checkE a != 0) = true from (congrArg Bool.not (beq_eq_false_iff_ne.2 c1)))] (by kernel_rfl)

theorem check2_c (a b : List D) (ha : a.length ≤ 1000000000) (hb : b.length ≤ 1000000000) : CallC P G 81 [vec a, vec b] [] (.ret (int (check2E a b))) [] :=
  check2_w a b ha hb (by unfold check2E; exact ⟨fun h => by rw [if_pos h], fun h => by rw [if_neg h]⟩)

/-! Most -/
/-! devices -/
end Go.Vec

/- VECTOR, 4: the program's merging: rounds over the pairs of two vectors. -/
namespace Go.Vec
set_option maxRecDepth 100000
set_option linter.unusedSimpArgs false
set_option linter.unusedVariables false
open Go Go.Am Go.Proofs Go.Seat

def gmax (x y : Int) : Int := if y > x then y else x
def rl (f : Nat) : AV := .lit (.func (.func f) #[] #[])

theorem gr_w (d x y : Int) (h : True) : CallC P G 125 [AV.agg [int d, int x, int y]] [] (AOut.ret (int (gmax x y))) [] := by
  have _ := h
  exact callC_of [] (by kernel_rfl)

theorem gr_c (d x y : Int) : CallC P G 125 [.agg [int d, int x, int y]] [] (.ret (int (gmax x y))) [] := gr_w d x y trivial

noncomputable def jrng : AObj := .rng .ready none (slots 35 [(3, .ptr 3 0), (6, .ptr 4 0)]) #[20] (asgAt P 59 0) (rbodyAt P 59 0)
noncomputable def q0 (f : Nat) (A B : List D) : List AObj := [jrng, .box [vec A], .box [vec B], .box [rl f], .box [nilS]]
noncomputable def q1 (f : Nat) (A B : List D) (g : Nat) (v : List D) : List AObj := [jrng, .box [vec A], .box [vec B], .box [rl f], .box [.own 7 g 0 v.length], .gone, .gone, .arr g 2 false (encs v)]

def Y0 (f : Nat) (tk : Int → Int → Int) (A B : List D) (d x y : Int) : Prop :=
  YieldC P G 0 [.agg [int d, int x, int y]] (q0 f A B ++ [.box [int d, int x, int y]]) true (if tk x y > 0 then q1 f A B 0 [(d, tk x y)] else q0 f A B ++ [.box [int d, int x, int y]])
def Y1 (f : Nat) (tk : Int → Int → Int) (A B v : List D) (g : Nat) (d x y : Int) : Prop :=
  YieldC P G 0 [.agg [int d, int x, int y]] (q1 f A B g v ++ [.box [int d, int x, int y]]) true (if tk x y > 0 then q1 f A B (g + 1) (v ++ [(d, tk x y)]) ++ [.box [int d, int x, int y]] else q1 f A B g v ++ [.box [int d, int x, int y]])

theorem gy0_w (A B : List D) (d x y : Int) (b : Bool) (H' : List AObj) (h : (((gmax x y > (0 : Int)) → (true = b) ∧ ([jrng, AObj.box [AV.sl 2 false (encs A)], AObj.box [AV.sl 2 false (encs B)], AObj.box [AV.lit (Value.func (Fn.func 125) { toList := [] } { toList := [] })], AObj.box [AV.own 7 0 0 1], AObj.box [int d, int x, int y], AObj.box [int d, int x, int y], AObj.arr 0 2 false (encs [(d, gmax x y)])] = H')) ∧ ((¬gmax x y > (0 : Int)) → (true = b) ∧ ([jrng, AObj.box [AV.sl 2 false (encs A)], AObj.box [AV.sl 2 false (encs B)], AObj.box [AV.lit (Value.func (Fn.func 125) { toList := [] } { toList := [] })], AObj.box [nilS], AObj.box [int d, int x, int y]] = H')))) : YieldC P G 0 [AV.agg [int d, int x, int y]] (q0 125 A B ++ [AObj.box [int d, int x, int y]]) b H' := by
  have hz0 := (@Go.Vec.gr_c (d) (x) (y))
  by_cases c1 : (gmax x y > (0 : Int))
  · have h := h.1 c1
    obtain ⟨e1, e2⟩ := h
    exact YieldC.to ((show YieldC P G 0 [AV.agg [int d, int x, int y]] (q0 125 A B ++ [AObj.box [int d, int x, int y]]) true [jrng, AObj.box [AV.sl 2 false (encs A)], AObj.box [AV.sl 2 false (encs B)], AObj.box [AV.lit (Value.func (Fn.func 125) { toList := [] } { toList := [] })], AObj.box [AV.own 7 0 0 1], AObj.box [int d, int x, int y], AObj.box [int d, int x, int y], AObj.arr 0 2 false (encs [(d, gmax x y)])] from yieldC_of (fun _ => [kc [] hz0, kt (decide_eq_true c1), kp (show [[int d, int (gmax x y)]] ≠ [] from (by simp)), kp (show 16 ≤ 140737488355328 from (by omega))]) (fun _ => by kernel_rfl))) e1 e2
  · have h := h.2 c1
    obtain ⟨e1, e2⟩ := h
    exact YieldC.to ((show YieldC P G 0 [AV.agg [int d, int x, int y]] (q0 125 A B ++ [AObj.box [int d, int x, int y]]) true [jrng, AObj.box [AV.sl 2 false (encs A)], AObj.box [AV.sl 2 false (encs B)], AObj.box [AV.lit (Value.func (Fn.func 125) { toList := [] } { toList := [] })], AObj.box [nilS], AObj.box [int d, int x, int y]] from yieldC_of (fun _ => [kc [] hz0, kf (decide_eq_false c1)]) (fun _ => by kernel_rfl))) e1 e2

theorem gy1_w (A B v : List D) (g : Nat) (d x y : Int) (b : Bool) (H' : List AObj) (hv : v.length ≤ 3000000000) (h : (((gmax x y > (0 : Int)) → (true = b) ∧ ([jrng, AObj.box [AV.sl 2 false (encs A)], AObj.box [AV.sl 2 false (encs B)], AObj.box [AV.lit (Value.func (Fn.func 125) { toList := [] } { toList := [] })], AObj.box [AV.own 7 (g + 1) 0 (List.length (v ++ [(d, gmax x y)]))], AObj.gone, AObj.gone, AObj.arr (g + 1) 2 false (encs (v ++ [(d, gmax x y)])), AObj.box [int d, int x, int y]] = H')) ∧ ((¬gmax x y > (0 : Int)) → (true = b) ∧ ([jrng, AObj.box [AV.sl 2 false (encs A)], AObj.box [AV.sl 2 false (encs B)], AObj.box [AV.lit (Value.func (Fn.func 125) { toList := [] } { toList := [] })], AObj.box [AV.own 7 g 0 (List.length v)], AObj.gone, AObj.gone, AObj.arr g 2 false (encs v), AObj.box [int d, int x, int y]] = H')))) : YieldC P G 0 [AV.agg [int d, int x, int y]] (q1 125 A B g v ++ [AObj.box [int d, int x, int y]]) b H' := by
  have hz0 := (@Go.Vec.gr_c (d) (x) (y))
  by_cases c1 : (gmax x y > (0 : Int))
  · have h := h.1 c1
    obtain ⟨e1, e2⟩ := h
    exact YieldC.to ((show YieldC P G 0 [AV.agg [int d, int x, int y]] (q1 125 A B g v ++ [AObj.box [int d, int x, int y]]) true [jrng, AObj.box [AV.sl 2 false (encs A)], AObj.box [AV.sl 2 false (encs B)], AObj.box [AV.lit (Value.func (Fn.func 125) { toList := [] } { toList := [] })], AObj.box [AV.own 7 (g + 1) 0 (List.length (v ++ [(d, gmax x y)]))], AObj.gone, AObj.gone, AObj.arr (g + 1) 2 false (encs (v ++ [(d, gmax x y)])), AObj.box [int d, int x, int y]] from yieldC_of (fun _ => [kc [] hz0, kt (decide_eq_true c1), ko (Orc.hp (some 33) (AV.own 7 (g + 1) 0 (List.length (v ++ [(d, gmax x y)]))) [AObj.rng LoopState.busy none (slots 35 [(3, AV.ptr 3 0), (6, AV.ptr 4 0)]) { toList := [20] } (asgAt P 59 0) (rbodyAt P 59 0), AObj.box [AV.sl 2 false (encs A)], AObj.box [AV.sl 2 false (encs B)], AObj.box [AV.lit (Value.func (Fn.func 125) { toList := [] } { toList := [] })], AObj.box [AV.own 7 g 0 (List.length v)], AObj.gone, AObj.gone, AObj.arr (g + 1) 2 false (encs (v ++ [(d, gmax x y)])), AObj.box [int d, int x, int y], AObj.box [int d, int x, int y]]), kp (show Am.Sub (AV.own 7 (g + 1) 0 (List.length v + 1)) (AV.own 7 (g + 1) 0 (List.length (v ++ [(d, gmax x y)]))) from (Sub.of_eq (by simp))), kp (show Am.HSub [AObj.rng LoopState.busy none (slots 35 [(3, AV.ptr 3 0), (6, AV.ptr 4 0)]) { toList := [20] } (asgAt P 59 0) (rbodyAt P 59 0), AObj.box [AV.sl 2 false (encs A)], AObj.box [AV.sl 2 false (encs B)], AObj.box [AV.lit (Value.func (Fn.func 125) { toList := [] } { toList := [] })], AObj.box [AV.own 7 g 0 (List.length v)], AObj.gone, AObj.gone, AObj.arr (g + 1) 2 false (encs v ++ [[int d, int (gmax x y)]]), AObj.box [int d, int x, int y], AObj.box [int d, int x, int y]] [AObj.rng LoopState.busy none (slots 35 [(3, AV.ptr 3 0), (6, AV.ptr 4 0)]) { toList := [20] } (asgAt P 59 0) (rbodyAt P 59 0), AObj.box [AV.sl 2 false (encs A)], AObj.box [AV.sl 2 false (encs B)], AObj.box [AV.lit (Value.func (Fn.func 125) { toList := [] } { toList := [] })], AObj.box [AV.own 7 g 0 (List.length v)], AObj.gone, AObj.gone, AObj.arr (g + 1) 2 false (encs (v ++ [(d, gmax x y)])), AObj.box [int d, int x, int y], AObj.box [int d, int x, int y]] from (⟨.inl rfl, .inl rfl, .inl rfl, .inl rfl, .inl rfl, .inl rfl, .inl rfl, .inl (by simp only [Go.Vec.encs_append, Go.Vec.encs_one]), .inl rfl, .inl rfl, trivial⟩)), kp (show g = g from (rfl)), kp (show List.length v = List.length (encs v) from ((Go.Vec.encs_length _).symm)), kp (show (List.length v + 1) * 16 ≤ 140737488355328 from (by omega)), kp (show ∀ (x_1 : List AV), x_1 ∈ encs (v ++ [(d, gmax x y)]) → AV.idsInL [] x_1 = true from (Go.Vec.encs_ids _))]) (fun _ => by kernel_rfl))) e1 e2
  · have h := h.2 c1
    obtain ⟨e1, e2⟩ := h
    exact YieldC.to ((show YieldC P G 0 [AV.agg [int d, int x, int y]] (q1 125 A B g v ++ [AObj.box [int d, int x, int y]]) true [jrng, AObj.box [AV.sl 2 false (encs A)], AObj.box [AV.sl 2 false (encs B)], AObj.box [AV.lit (Value.func (Fn.func 125) { toList := [] } { toList := [] })], AObj.box [AV.own 7 g 0 (List.length v)], AObj.gone, AObj.gone, AObj.arr g 2 false (encs v), AObj.box [int d, int x, int y]] from yieldC_of (fun _ => [kc [] hz0, kf (decide_eq_false c1), kp (show ∀ (x : List AV), x ∈ encs v → AV.idsInL [] x = true from (Go.Vec.encs_ids _))]) (fun _ => by kernel_rfl))) e1 e2

theorem gy0 (A B : List D) (d x y : Int) : Y0 125 gmax A B d x y := by
  unfold Y0
  by_cases h : gmax x y > 0
  · rw [if_pos h]
    exact YieldC.heapSub (gy0_w A B d x y true _ ⟨fun _ => ⟨rfl, rfl⟩, fun h' => absurd h h'⟩) ⟨.inl rfl, .inl rfl, .inl rfl, .inl rfl, .inl rfl, .inr trivial, .inr trivial, .inl rfl, trivial⟩
  · rw [if_neg h]
    exact gy0_w A B d x y true _ ⟨fun h' => absurd h' h, fun _ => ⟨rfl, rfl⟩⟩
theorem gy1 (A B v : List D) (g : Nat) (d x y : Int) (hv : v.length ≤ 3000000000) : Y1 125 gmax A B v g d x y := by
  unfold Y1
  by_cases h : gmax x y > 0
  · rw [if_pos h]
    exact gy1_w A B v g d x y true _ hv ⟨fun _ => ⟨rfl, rfl⟩, fun h' => absurd h h'⟩
  · rw [if_neg h]
    exact gy1_w A B v g d x y true _ hv ⟨fun h' => absurd h' h, fun _ => ⟨rfl, rfl⟩⟩

theorem pairs_w (a b : List D) (h : True) : CallC P G 82 [vec a, vec b] [] (AOut.ret (AV.fn (Fn.func 98) [] [AV.ptr 0 0, AV.ptr 1 0])) [AObj.box [vec a], AObj.box [vec b]] := by
  have _ := h
  exact callC_of [] (by kernel_rfl)

theorem pairs_c (a b : List D) : CallC P G 82 [vec a, vec b] [] (.ret (.fn (.func 98) [] [.ptr 0 0, .ptr 1 0])) [.box [vec a], .box [vec b]] := pairs_w a b trivial

noncomputable def plSt0 (f : Nat) (A B : List D) : St := { env := slots 91 [(0, .yl 0), (1, .ptr 1 0), (2, .ptr 2 0)], H := q0 f A B }
noncomputable def plSt1 (f : Nat) (A B : List D) (g : Nat) (v : List D) : St := { env := slots 91 [(0, .yl 0), (1, .ptr 1 0), (2, .ptr 2 0)], H := q1 f A B g v }

theorem pl_w0 (f : Nat) (tk : Int → Int → Int) (A B : List D) (hy : ∀ A B d x y, YieldC P G 0 [.agg [int d, int x, int y]] (q0 f A B ++ [.box [int d, int x, int y]]) true (if tk x y > 0 then q1 f A B 0 [(d, tk x y)] else q0 f A B ++ [.box [int d, int x, int y]])) (hA : A.length ≤ 1000000000) (hB : B.length ≤ 1000000000) (ex : AEx) (s' : St) (h : ((((↑(List.length A) : Int) > (0 : Int)) → ((((↑(List.length B) : Int) = (0 : Int)) → (∃ x3 : D, (A[0]? = some x3) ∧ (((tk (Prod.snd x3) 0 > (0 : Int)) → RunL P G none 5 (loopAt P 98 0) { env := slots 91 [(0, AV.yl 0), (1, AV.ptr 1 0), (2, AV.ptr 2 0)], H := [jrng, AObj.box [AV.sl 2 false (encs (List.drop 1 A))], AObj.box [AV.sl 2 false (encs B)], AObj.box [AV.lit (Value.func (Fn.func f) { toList := [] } { toList := [] })], AObj.box [AV.own 7 0 0 1], AObj.gone, AObj.gone, AObj.arr 0 2 false [[int (Prod.fst x3), int (tk (Prod.snd x3) 0)]]] } ex s') ∧ ((¬tk (Prod.snd x3) 0 > (0 : Int)) → RunL P G none 5 (loopAt P 98 0) { env := slots 91 [(0, AV.yl 0), (1, AV.ptr 1 0), (2, AV.ptr 2 0)], H := [jrng, AObj.box [AV.sl 2 false (encs (List.drop 1 A))], AObj.box [AV.sl 2 false (encs B)], AObj.box [AV.lit (Value.func (Fn.func f) { toList := [] } { toList := [] })], AObj.box [nilS]] } ex s')))) ∧ ((¬(↑(List.length B) : Int) = (0 : Int)) → (∃ x6 : D, (A[0]? = some x6) ∧ (∃ x8 : D, (B[0]? = some x8) ∧ (((Prod.fst x6 < Prod.fst x8) → (((tk (Prod.snd x6) 0 > (0 : Int)) → RunL P G none 5 (loopAt P 98 0) { env := slots 91 [(0, AV.yl 0), (1, AV.ptr 1 0), (2, AV.ptr 2 0)], H := [jrng, AObj.box [AV.sl 2 false (encs (List.drop 1 A))], AObj.box [AV.sl 2 false (encs B)], AObj.box [AV.lit (Value.func (Fn.func f) { toList := [] } { toList := [] })], AObj.box [AV.own 7 0 0 1], AObj.gone, AObj.gone, AObj.arr 0 2 false [[int (Prod.fst x6), int (tk (Prod.snd x6) 0)]]] } ex s') ∧ ((¬tk (Prod.snd x6) 0 > (0 : Int)) → RunL P G none 5 (loopAt P 98 0) { env := slots 91 [(0, AV.yl 0), (1, AV.ptr 1 0), (2, AV.ptr 2 0)], H := [jrng, AObj.box [AV.sl 2 false (encs (List.drop 1 A))], AObj.box [AV.sl 2 false (encs B)], AObj.box [AV.lit (Value.func (Fn.func f) { toList := [] } { toList := [] })], AObj.box [nilS]] } ex s'))) ∧ ((¬Prod.fst x6 < Prod.fst x8) → (((Prod.fst x8 < Prod.fst x6) → (((tk 0 (Prod.snd x8) > (0 : Int)) → RunL P G none 5 (loopAt P 98 0) { env := slots 91 [(0, AV.yl 0), (1, AV.ptr 1 0), (2, AV.ptr 2 0)], H := [jrng, AObj.box [AV.sl 2 false (encs A)], AObj.box [AV.sl 2 false (encs (List.drop 1 B))], AObj.box [AV.lit (Value.func (Fn.func f) { toList := [] } { toList := [] })], AObj.box [AV.own 7 0 0 1], AObj.gone, AObj.gone, AObj.arr 0 2 false [[int (Prod.fst x8), int (tk 0 (Prod.snd x8))]]] } ex s') ∧ ((¬tk 0 (Prod.snd x8) > (0 : Int)) → RunL P G none 5 (loopAt P 98 0) { env := slots 91 [(0, AV.yl 0), (1, AV.ptr 1 0), (2, AV.ptr 2 0)], H := [jrng, AObj.box [AV.sl 2 false (encs A)], AObj.box [AV.sl 2 false (encs (List.drop 1 B))], AObj.box [AV.lit (Value.func (Fn.func f) { toList := [] } { toList := [] })], AObj.box [nilS]] } ex s'))) ∧ ((¬Prod.fst x8 < Prod.fst x6) → (((tk (Prod.snd x6) (Prod.snd x8) > (0 : Int)) → RunL P G none 5 (loopAt P 98 0) { env := slots 91 [(0, AV.yl 0), (1, AV.ptr 1 0), (2, AV.ptr 2 0)], H := [jrng, AObj.box [AV.sl 2 false (encs (List.drop 1 A))], AObj.box [AV.sl 2 false (encs (List.drop 1 B))], AObj.box [AV.lit (Value.func (Fn.func f) { toList := [] } { toList := [] })], AObj.box [AV.own 7 0 0 1], AObj.gone, AObj.gone, AObj.arr 0 2 false [[int (Prod.fst x6), int (tk (Prod.snd x6) (Prod.snd x8))]]] } ex s') ∧ ((¬tk (Prod.snd x6) (Prod.snd x8) > (0 : Int)) → RunL P G none 5 (loopAt P 98 0) { env := slots 91 [(0, AV.yl 0), (1, AV.ptr 1 0), (2, AV.ptr 2 0)], H := [jrng, AObj.box [AV.sl 2 false (encs (List.drop 1 A))], AObj.box [AV.sl 2 false (encs (List.drop 1 B))], AObj.box [AV.lit (Value.func (Fn.func f) { toList := [] } { toList := [] })], AObj.box [nilS]] } ex s'))))))))))) ∧ ((¬(↑(List.length A) : Int) > (0 : Int)) → ((((↑(List.length B) : Int) > (0 : Int)) → (∃ x19 : D, (B[0]? = some x19) ∧ (((tk 0 (Prod.snd x19) > (0 : Int)) → RunL P G none 5 (loopAt P 98 0) { env := slots 91 [(0, AV.yl 0), (1, AV.ptr 1 0), (2, AV.ptr 2 0)], H := [jrng, AObj.box [AV.sl 2 false (encs A)], AObj.box [AV.sl 2 false (encs (List.drop 1 B))], AObj.box [AV.lit (Value.func (Fn.func f) { toList := [] } { toList := [] })], AObj.box [AV.own 7 0 0 1], AObj.gone, AObj.gone, AObj.arr 0 2 false [[int (Prod.fst x19), int (tk 0 (Prod.snd x19))]]] } ex s') ∧ ((¬tk 0 (Prod.snd x19) > (0 : Int)) → RunL P G none 5 (loopAt P 98 0) { env := slots 91 [(0, AV.yl 0), (1, AV.ptr 1 0), (2, AV.ptr 2 0)], H := [jrng, AObj.box [AV.sl 2 false (encs A)], AObj.box [AV.sl 2 false (encs (List.drop 1 B))], AObj.box [AV.lit (Value.func (Fn.func f) { toList := [] } { toList := [] })], AObj.box [nilS]] } ex s')))) ∧ ((¬(↑(List.length B) : Int) > (0 : Int)) → (AEx.exit 0 = ex) ∧ ({ env := slots 91 [], H := [jrng, AObj.box [AV.sl 2 false (encs A)], AObj.box [AV.sl 2 false (encs B)], AObj.box [AV.lit (Value.func (Fn.func f) { toList := [] } { toList := [] })], AObj.box [nilS]] } = s')))))) : RunL P G none 5 (loopAt P 98 0) (plSt0 f A B) ex s' := by
  have hz0 : Am.Sub (int (↑(List.length (encs A)) : Int)) (int (↑(List.length A) : Int)) := (Sub.of_eq (by simp only [Go.Vec.encs_length]))
  by_cases c1 : ((↑(List.length A) : Int) > (0 : Int))
  · have h := h.1 c1
    have hz1 : Am.Sub (int (↑(List.length (encs B)) : Int)) (int (↑(List.length B) : Int)) := (Sub.of_eq (by simp only [Go.Vec.encs_length]))
    by_cases c2 : ((↑(List.length B) : Int) = (0 : Int))
    · have h := h.1 c2
      obtain ⟨x3, o4, h⟩ := h
      have hz2 : (0 : Int) ≤ (0 : Int) ∧ (encs A)[Int.toNat 0]? = some (enc x3) := (el_nat o4)
      have hz3 : Am.Sub (AV.sl 2 false (List.drop 1 (List.take (Int.toNat (↑(List.length (encs A)) : Int)) (encs A)))) (AV.sl 2 false (encs (List.drop 1 A))) := (Sub.of_eq (by simp only [Go.Vec.encs_length, Go.Vec.encs_drop, Go.Vec.encs_take, Int.toNat_natCast, List.take_length]))
      have hz4 : (0 : Int) ≤ (1 : Int) ∧ (1 : Int) ≤ (↑(List.length (encs A)) : Int) ∧ (↑(List.length (encs A)) : Int) ≤ (↑(List.length (encs A)) : Int) := (by rw [Go.Vec.encs_length]; omega)
      by_cases c5 : (tk (Prod.snd x3) 0 > (0 : Int))
      · have h := h.1 c5
        exact loop_next [kv 6 hz0, kt (decide_eq_true c1), kt (Eq.refl true), kv 32 hz1, kt (beq_iff_eq.2 c2), kt (Eq.refl true), ko (Orc.elem (enc x3)), ko (Orc.elem (enc x3)), kp hz2, kp hz2, kv 60 hz3, ko (Orc.call [] (AOut.ret (Am.bool true)) (q1 f (List.drop 1 A) B 0 [(Prod.fst x3, tk (Prod.snd x3) 0)])), kp hz4, kp (show YieldC P G 0 [AV.agg [int (Prod.fst x3), int (Prod.snd x3), int 0]] [jrng, AObj.box [AV.sl 2 false (encs (List.drop 1 A))], AObj.box [AV.sl 2 false (encs B)], AObj.box [AV.lit (Value.func (Fn.func f) { toList := [] } { toList := [] })], AObj.box [nilS], AObj.box [int (Prod.fst x3), int (Prod.snd x3), int 0]] true [jrng, AObj.box [AV.sl 2 false (encs (List.drop 1 A))], AObj.box [AV.sl 2 false (encs B)], AObj.box [AV.lit (Value.func (Fn.func f) { toList := [] } { toList := [] })], AObj.box [AV.own 7 0 0 1], AObj.gone, AObj.gone, AObj.arr 0 2 false [[int (Prod.fst x3), int (tk (Prod.snd x3) 0)]]] from (by have h0 := (@hy (List.drop 1 A) (B) (Prod.fst x3) (Prod.snd x3) (0)); simp only [if_pos c5] at h0; exact h0)), kf (Eq.refl false)] (others 91 [0, 1, 2]) 8 h (by kernel_rfl)
      · have h := h.2 c5
        exact loop_next [kv 6 hz0, kt (decide_eq_true c1), kt (Eq.refl true), kv 32 hz1, kt (beq_iff_eq.2 c2), kt (Eq.refl true), ko (Orc.elem (enc x3)), ko (Orc.elem (enc x3)), kp hz2, kp hz2, kv 60 hz3, ko (Orc.call [] (AOut.ret (Am.bool true)) (q0 f (List.drop 1 A) B ++ [AObj.box [int (Prod.fst x3), int (Prod.snd x3), int 0]])), kp hz4, kp (show YieldC P G 0 [AV.agg [int (Prod.fst x3), int (Prod.snd x3), int 0]] [jrng, AObj.box [AV.sl 2 false (encs (List.drop 1 A))], AObj.box [AV.sl 2 false (encs B)], AObj.box [AV.lit (Value.func (Fn.func f) { toList := [] } { toList := [] })], AObj.box [nilS], AObj.box [int (Prod.fst x3), int (Prod.snd x3), int 0]] true [jrng, AObj.box [AV.sl 2 false (encs (List.drop 1 A))], AObj.box [AV.sl 2 false (encs B)], AObj.box [AV.lit (Value.func (Fn.func f) { toList := [] } { toList := [] })], AObj.box [nilS], AObj.box [int (Prod.fst x3), int (Prod.snd x3), int 0]] from (by have h0 := (@hy (List.drop 1 A) (B) (Prod.fst x3) (Prod.snd x3) (0)); simp only [if_neg c5] at h0; exact h0)), kf (Eq.refl false)] (others 91 [0, 1, 2]) 5 h (by kernel_rfl)
    · have h := h.2 c2
      obtain ⟨x6, o7, h⟩ := h
      have hz7 : (0 : Int) ≤ (0 : Int) ∧ (encs A)[Int.toNat 0]? = some (enc x6) := (el_nat o7)
      obtain ⟨x8, o9, h⟩ := h
      have hz8 : (0 : Int) ≤ (0 : Int) ∧ (encs B)[Int.toNat 0]? = some (enc x8) := (el_nat o9)
      by_cases c10 : (Prod.fst x6 < Prod.fst x8)
      · have h := h.1 c10
        by_cases c11 : (tk (Prod.snd x6) 0 > (0 : Int))
        · have h := h.1 c11
          exact loop_next [kv 6 hz0, kt (decide_eq_true c1), kt (Eq.refl true), kv 32 hz1, kf (beq_eq_false_iff_ne.2 c2), kv 36 hz0, kt (decide_eq_true c1), ko (Orc.elem (enc x6)), ko (Orc.elem (enc x8)), kp hz7, kp hz8, kt (decide_eq_true c10), ko (Orc.elem (enc x6)), ko (Orc.elem (enc x6)), kp hz7, kp hz7, kv 60 (show Am.Sub (AV.sl 2 false (List.drop 1 (List.take (Int.toNat (↑(List.length (encs A)) : Int)) (encs A)))) (AV.sl 2 false (encs (List.drop 1 A))) from (Sub.of_eq (by simp only [Go.Vec.encs_length, Go.Vec.encs_drop, Go.Vec.encs_take, Int.toNat_natCast, List.take_length]))), ko (Orc.call [] (AOut.ret (Am.bool true)) (q1 f (List.drop 1 A) B 0 [(Prod.fst x6, tk (Prod.snd x6) 0)])), kp (show (0 : Int) ≤ (1 : Int) ∧ (1 : Int) ≤ (↑(List.length (encs A)) : Int) ∧ (↑(List.length (encs A)) : Int) ≤ (↑(List.length (encs A)) : Int) from (by rw [Go.Vec.encs_length]; omega)), kp (show YieldC P G 0 [AV.agg [int (Prod.fst x6), int (Prod.snd x6), int 0]] [jrng, AObj.box [AV.sl 2 false (encs (List.drop 1 A))], AObj.box [AV.sl 2 false (encs B)], AObj.box [AV.lit (Value.func (Fn.func f) { toList := [] } { toList := [] })], AObj.box [nilS], AObj.box [int (Prod.fst x6), int (Prod.snd x6), int 0]] true [jrng, AObj.box [AV.sl 2 false (encs (List.drop 1 A))], AObj.box [AV.sl 2 false (encs B)], AObj.box [AV.lit (Value.func (Fn.func f) { toList := [] } { toList := [] })], AObj.box [AV.own 7 0 0 1], AObj.gone, AObj.gone, AObj.arr 0 2 false [[int (Prod.fst x6), int (tk (Prod.snd x6) 0)]]] from (by have h0 := (@hy (List.drop 1 A) (B) (Prod.fst x6) (Prod.snd x6) (0)); simp only [if_pos c11] at h0; exact h0)), kf (Eq.refl false)] (others 91 [0, 1, 2]) 8 h (by kernel_rfl)
        · have h := h.2 c11
          exact loop_next [kv 6 hz0, kt (decide_eq_true c1), kt (Eq.refl true), kv 32 hz1, kf (beq_eq_false_iff_ne.2 c2), kv 36 hz0, kt (decide_eq_true c1), ko (Orc.elem (enc x6)), ko (Orc.elem (enc x8)), kp hz7, kp hz8, kt (decide_eq_true c10), ko (Orc.elem (enc x6)), ko (Orc.elem (enc x6)), kp hz7, kp hz7, kv 60 (show Am.Sub (AV.sl 2 false (List.drop 1 (List.take (Int.toNat (↑(List.length (encs A)) : Int)) (encs A)))) (AV.sl 2 false (encs (List.drop 1 A))) from (Sub.of_eq (by simp only [Go.Vec.encs_length, Go.Vec.encs_drop, Go.Vec.encs_take, Int.toNat_natCast, List.take_length]))), ko (Orc.call [] (AOut.ret (Am.bool true)) (q0 f (List.drop 1 A) B ++ [AObj.box [int (Prod.fst x6), int (Prod.snd x6), int 0]])), kp (show (0 : Int) ≤ (1 : Int) ∧ (1 : Int) ≤ (↑(List.length (encs A)) : Int) ∧ (↑(List.length (encs A)) : Int) ≤ (↑(List.length (encs A)) : Int) from (by rw [Go.Vec.encs_length]; omega)), kp (show YieldC P G 0 [AV.agg [int (Prod.fst x6), int (Prod.snd x6), int 0]] [jrng, AObj.box [AV.sl 2 false (encs (List.drop 1 A))], AObj.box [AV.sl 2 false (encs B)], AObj.box [AV.lit (Value.func (Fn.func f) { toList := [] } { toList := [] })], AObj.box [nilS], AObj.box [int (Prod.fst x6), int (Prod.snd x6), int 0]] true [jrng, AObj.box [AV.sl 2 false (encs (List.drop 1 A))], AObj.box [AV.sl 2 false (encs B)], AObj.box [AV.lit (Value.func (Fn.func f) { toList := [] } { toList := [] })], AObj.box [nilS], AObj.box [int (Prod.fst x6), int (Prod.snd x6), int 0]] from (by have h0 := (@hy (List.drop 1 A) (B) (Prod.fst x6) (Prod.snd x6) (0)); simp only [if_neg c11] at h0; exact h0)), kf (Eq.refl false)] (others 91 [0, 1, 2]) 5 h (by kernel_rfl)
      · have h := h.2 c10
        have hz11 : ((↑(List.length A) : Int) == 0) = false := (decide_eq_false (by omega))
        by_cases c13 : (Prod.fst x8 < Prod.fst x6)
        · have h := h.1 c13
          have hz12 : Am.Sub (AV.sl 2 false (List.drop 1 (List.take (Int.toNat (↑(List.length (encs B)) : Int)) (encs B)))) (AV.sl 2 false (encs (List.drop 1 B))) := (Sub.of_eq (by simp only [Go.Vec.encs_length, Go.Vec.encs_drop, Go.Vec.encs_take, Int.toNat_natCast, List.take_length]))
          have hz13 : (0 : Int) ≤ (1 : Int) ∧ (1 : Int) ≤ (↑(List.length (encs B)) : Int) ∧ (↑(List.length (encs B)) : Int) ≤ (↑(List.length (encs B)) : Int) := (by rw [Go.Vec.encs_length]; omega)
          by_cases c14 : (tk 0 (Prod.snd x8) > (0 : Int))
          · have h := h.1 c14
            exact loop_next [kv 6 hz0, kt (decide_eq_true c1), kt (Eq.refl true), kv 32 hz1, kf (beq_eq_false_iff_ne.2 c2), kv 36 hz0, kt (decide_eq_true c1), ko (Orc.elem (enc x6)), ko (Orc.elem (enc x8)), kp hz7, kp hz8, kf (decide_eq_false c10), kv 63 hz0, kf hz11, ko (Orc.elem (enc x8)), ko (Orc.elem (enc x6)), kp hz8, kp hz7, kt (decide_eq_true c13), ko (Orc.elem (enc x8)), ko (Orc.elem (enc x8)), kp hz8, kp hz8, kv 86 hz12, ko (Orc.call [] (AOut.ret (Am.bool true)) (q1 f A (List.drop 1 B) 0 [(Prod.fst x8, tk 0 (Prod.snd x8))])), kp hz13, kp (show YieldC P G 0 [AV.agg [int (Prod.fst x8), int 0, int (Prod.snd x8)]] [jrng, AObj.box [AV.sl 2 false (encs A)], AObj.box [AV.sl 2 false (encs (List.drop 1 B))], AObj.box [AV.lit (Value.func (Fn.func f) { toList := [] } { toList := [] })], AObj.box [nilS], AObj.box [int (Prod.fst x8), int 0, int (Prod.snd x8)]] true [jrng, AObj.box [AV.sl 2 false (encs A)], AObj.box [AV.sl 2 false (encs (List.drop 1 B))], AObj.box [AV.lit (Value.func (Fn.func f) { toList := [] } { toList := [] })], AObj.box [AV.own 7 0 0 1], AObj.gone, AObj.gone, AObj.arr 0 2 false [[int (Prod.fst x8), int (tk 0 (Prod.snd x8))]]] from (by have h0 := (@hy (A) (List.drop 1 B) (Prod.fst x8) (0) (Prod.snd x8)); simp only [if_pos c14] at h0; exact h0)), kf (Eq.refl false)] (others 91 [0, 1, 2]) 8 h (by kernel_rfl)
          · have h := h.2 c14
            exact loop_next [kv 6 hz0, kt (decide_eq_true c1), kt (Eq.refl true), kv 32 hz1, kf (beq_eq_false_iff_ne.2 c2), kv 36 hz0, kt (decide_eq_true c1), ko (Orc.elem (enc x6)), ko (Orc.elem (enc x8)), kp hz7, kp hz8, kf (decide_eq_false c10), kv 63 hz0, kf hz11, ko (Orc.elem (enc x8)), ko (Orc.elem (enc x6)), kp hz8, kp hz7, kt (decide_eq_true c13), ko (Orc.elem (enc x8)), ko (Orc.elem (enc x8)), kp hz8, kp hz8, kv 86 hz12, ko (Orc.call [] (AOut.ret (Am.bool true)) (q0 f A (List.drop 1 B) ++ [AObj.box [int (Prod.fst x8), int 0, int (Prod.snd x8)]])), kp hz13, kp (show YieldC P G 0 [AV.agg [int (Prod.fst x8), int 0, int (Prod.snd x8)]] [jrng, AObj.box [AV.sl 2 false (encs A)], AObj.box [AV.sl 2 false (encs (List.drop 1 B))], AObj.box [AV.lit (Value.func (Fn.func f) { toList := [] } { toList := [] })], AObj.box [nilS], AObj.box [int (Prod.fst x8), int 0, int (Prod.snd x8)]] true [jrng, AObj.box [AV.sl 2 false (encs A)], AObj.box [AV.sl 2 false (encs (List.drop 1 B))], AObj.box [AV.lit (Value.func (Fn.func f) { toList := [] } { toList := [] })], AObj.box [nilS], AObj.box [int (Prod.fst x8), int 0, int (Prod.snd x8)]] from (by have h0 := (@hy (A) (List.drop 1 B) (Prod.fst x8) (0) (Prod.snd x8)); simp only [if_neg c14] at h0; exact h0)), kf (Eq.refl false)] (others 91 [0, 1, 2]) 5 h (by kernel_rfl)
        · have h := h.2 c13
          have hz12 : Am.Sub (AV.sl 2 false (List.drop 1 (List.take (Int.toNat (↑(List.length (encs B)) : Int)) (encs B)))) (AV.sl 2 false (encs (List.drop 1 B))) := (Sub.of_eq (by simp only [Go.Vec.encs_length, Go.Vec.encs_drop, Go.Vec.encs_take, Int.toNat_natCast, List.take_length]))
          have hz13 : (0 : Int) ≤ (1 : Int) ∧ (1 : Int) ≤ (↑(List.length (encs B)) : Int) ∧ (↑(List.length (encs B)) : Int) ≤ (↑(List.length (encs B)) : Int) := (by rw [Go.Vec.encs_length]; omega)
          by_cases c15 : (tk (Prod.snd x6) (Prod.snd x8) > (0 : Int))
          · have h := h.1 c15
            exact loop_next [kv 6 hz0, kt (decide_eq_true c1), kt (Eq.refl true), kv 32 hz1, kf (beq_eq_false_iff_ne.2 c2), kv 36 hz0, kt (decide_eq_true c1), ko (Orc.elem (enc x6)), ko (Orc.elem (enc x8)), kp hz7, kp hz8, kf (decide_eq_false c10), kv 63 hz0, kf hz11, ko (Orc.elem (enc x8)), ko (Orc.elem (enc x6)), kp hz8, kp hz7, kf (decide_eq_false c13), ko (Orc.elem (enc x6)), ko (Orc.elem (enc x6)), ko (Orc.elem (enc x8)), kp hz7, kp hz7, kp hz8, kv 27 (show Am.Sub (AV.sl 2 false (List.drop 1 (List.take (Int.toNat (↑(List.length (encs A)) : Int)) (encs A)))) (AV.sl 2 false (encs (List.drop 1 A))) from (Sub.of_eq (by simp only [Go.Vec.encs_length, Go.Vec.encs_drop, Go.Vec.encs_take, Int.toNat_natCast, List.take_length]))), kp (show (0 : Int) ≤ (1 : Int) ∧ (1 : Int) ≤ (↑(List.length (encs A)) : Int) ∧ (↑(List.length (encs A)) : Int) ≤ (↑(List.length (encs A)) : Int) from (by rw [Go.Vec.encs_length]; omega)), kv 29 hz12, ko (Orc.call [] (AOut.ret (Am.bool true)) (q1 f (List.drop 1 A) (List.drop 1 B) 0 [(Prod.fst x6, tk (Prod.snd x6) (Prod.snd x8))])), kp hz13, kp (show YieldC P G 0 [AV.agg [int (Prod.fst x6), int (Prod.snd x6), int (Prod.snd x8)]] [jrng, AObj.box [AV.sl 2 false (encs (List.drop 1 A))], AObj.box [AV.sl 2 false (encs (List.drop 1 B))], AObj.box [AV.lit (Value.func (Fn.func f) { toList := [] } { toList := [] })], AObj.box [nilS], AObj.box [int (Prod.fst x6), int (Prod.snd x6), int (Prod.snd x8)]] true [jrng, AObj.box [AV.sl 2 false (encs (List.drop 1 A))], AObj.box [AV.sl 2 false (encs (List.drop 1 B))], AObj.box [AV.lit (Value.func (Fn.func f) { toList := [] } { toList := [] })], AObj.box [AV.own 7 0 0 1], AObj.gone, AObj.gone, AObj.arr 0 2 false [[int (Prod.fst x6), int (tk (Prod.snd x6) (Prod.snd x8))]]] from (by have h0 := (@hy (List.drop 1 A) (List.drop 1 B) (Prod.fst x6) (Prod.snd x6) (Prod.snd x8)); simp only [if_pos c15] at h0; exact h0)), kf (Eq.refl false)] (others 91 [0, 1, 2]) 8 h (by kernel_rfl)
          · have h := h.2 c15
            exact loop_next [kv 6 hz0, kt (decide_eq_true c1), kt (Eq.refl true), kv 32 hz1, kf (beq_eq_false_iff_ne.2 c2), kv 36 hz0, kt (decide_eq_true c1), ko (Orc.elem (enc x6)), ko (Orc.elem (enc x8)), kp hz7, kp hz8, kf (decide_eq_false c10), kv 63 hz0, kf hz11, ko (Orc.elem (enc x8)), ko (Orc.elem (enc x6)), kp hz8, kp hz7, kf (decide_eq_false c13), ko (Orc.elem (enc x6)), ko (Orc.elem (enc x6)), ko (Orc.elem (enc x8)), kp hz7, kp hz7, kp hz8, kv 27 (show Am.Sub (AV.sl 2 false (List.drop 1 (List.take (Int.toNat (↑(List.length (encs A)) : Int)) (encs A)))) (AV.sl 2 false (encs (List.drop 1 A))) from (Sub.of_eq (by simp only [Go.Vec.encs_length, Go.Vec.encs_drop, Go.Vec.encs_take, Int.toNat_natCast, List.take_length]))), kp (show (0 : Int) ≤ (1 : Int) ∧ (1 : Int) ≤ (↑(List.length (encs A)) : Int) ∧ (↑(List.length (encs A)) : Int) ≤ (↑(List.length (encs A)) : Int) from (by rw [Go.Vec.encs_length]; omega)), kv 29 hz12, ko (Orc.call [] (AOut.ret (Am.bool true)) (q0 f (List.drop 1 A) (List.drop 1 B) ++ [AObj.box [int (Prod.fst x6), int (Prod.snd x6), int (Prod.snd x8)]])), kp hz13, kp (show YieldC P G 0 [AV.agg [int (Prod.fst x6), int (Prod.snd x6), int (Prod.snd x8)]] [jrng, AObj.box [AV.sl 2 false (encs (List.drop 1 A))], AObj.box [AV.sl 2 false (encs (List.drop 1 B))], AObj.box [AV.lit (Value.func (Fn.func f) { toList := [] } { toList := [] })], AObj.box [nilS], AObj.box [int (Prod.fst x6), int (Prod.snd x6), int (Prod.snd x8)]] true [jrng, AObj.box [AV.sl 2 false (encs (List.drop 1 A))], AObj.box [AV.sl 2 false (encs (List.drop 1 B))], AObj.box [AV.lit (Value.func (Fn.func f) { toList := [] } { toList := [] })], AObj.box [nilS], AObj.box [int (Prod.fst x6), int (Prod.snd x6), int (Prod.snd x8)]] from (by have h0 := (@hy (List.drop 1 A) (List.drop 1 B) (Prod.fst x6) (Prod.snd x6) (Prod.snd x8)); simp only [if_neg c15] at h0; exact h0)), kf (Eq.refl false)] (others 91 [0, 1, 2]) 5 h (by kernel_rfl)
  · have h := h.2 c1
    have hz1 : Am.Sub (int (↑(List.length (encs B)) : Int)) (int (↑(List.length B) : Int)) := (Sub.of_eq (by simp only [Go.Vec.encs_length]))
    by_cases c16 : ((↑(List.length B) : Int) > (0 : Int))
    · have h := h.1 c16
      have hz18 : ((↑(List.length B) : Int) == 0) = false := (decide_eq_false (by omega))
      have hz19 : ((↑(List.length A) : Int) == 0) = true := (decide_eq_true (by omega))
      obtain ⟨x19, o20, h⟩ := h
      have hz20 : (0 : Int) ≤ (0 : Int) ∧ (encs B)[Int.toNat 0]? = some (enc x19) := (el_nat o20)
      by_cases c21 : (tk 0 (Prod.snd x19) > (0 : Int))
      · have h := h.1 c21
        exact loop_next [kv 6 hz0, kf (decide_eq_false c1), kv 10 hz1, kt (decide_eq_true c16), kv 32 hz1, kf hz18, kv 36 hz0, kf (decide_eq_false c1), kf (Eq.refl false), kv 63 hz0, kt hz19, kt (Eq.refl true), ko (Orc.elem (enc x19)), ko (Orc.elem (enc x19)), kp hz20, kp hz20, kv 86 (show Am.Sub (AV.sl 2 false (List.drop 1 (List.take (Int.toNat (↑(List.length (encs B)) : Int)) (encs B)))) (AV.sl 2 false (encs (List.drop 1 B))) from (Sub.of_eq (by simp only [Go.Vec.encs_length, Go.Vec.encs_drop, Go.Vec.encs_take, Int.toNat_natCast, List.take_length]))), ko (Orc.call [] (AOut.ret (Am.bool true)) (q1 f A (List.drop 1 B) 0 [(Prod.fst x19, tk 0 (Prod.snd x19))])), kp (show (0 : Int) ≤ (1 : Int) ∧ (1 : Int) ≤ (↑(List.length (encs B)) : Int) ∧ (↑(List.length (encs B)) : Int) ≤ (↑(List.length (encs B)) : Int) from (by rw [Go.Vec.encs_length]; omega)), kp (show YieldC P G 0 [AV.agg [int (Prod.fst x19), int 0, int (Prod.snd x19)]] [jrng, AObj.box [AV.sl 2 false (encs A)], AObj.box [AV.sl 2 false (encs (List.drop 1 B))], AObj.box [AV.lit (Value.func (Fn.func f) { toList := [] } { toList := [] })], AObj.box [nilS], AObj.box [int (Prod.fst x19), int 0, int (Prod.snd x19)]] true [jrng, AObj.box [AV.sl 2 false (encs A)], AObj.box [AV.sl 2 false (encs (List.drop 1 B))], AObj.box [AV.lit (Value.func (Fn.func f) { toList := [] } { toList := [] })], AObj.box [AV.own 7 0 0 1], AObj.gone, AObj.gone, AObj.arr 0 2 false [[int (Prod.fst x19), int (tk 0 (Prod.snd x19))]]] from (by have h0 := (@hy (A) (List.drop 1 B) (Prod.fst x19) (0) (Prod.snd x19)); simp only [if_pos c21] at h0; exact h0)), kf (Eq.refl false)] (others 91 [0, 1, 2]) 8 h (by kernel_rfl)
      · have h := h.2 c21
        exact loop_next [kv 6 hz0, kf (decide_eq_false c1), kv 10 hz1, kt (decide_eq_true c16), kv 32 hz1, kf hz18, kv 36 hz0, kf (decide_eq_false c1), kf (Eq.refl false), kv 63 hz0, kt hz19, kt (Eq.refl true), ko (Orc.elem (enc x19)), ko (Orc.elem (enc x19)), kp hz20, kp hz20, kv 86 (show Am.Sub (AV.sl 2 false (List.drop 1 (List.take (Int.toNat (↑(List.length (encs B)) : Int)) (encs B)))) (AV.sl 2 false (encs (List.drop 1 B))) from (Sub.of_eq (by simp only [Go.Vec.encs_length, Go.Vec.encs_drop, Go.Vec.encs_take, Int.toNat_natCast, List.take_length]))), ko (Orc.call [] (AOut.ret (Am.bool true)) (q0 f A (List.drop 1 B) ++ [AObj.box [int (Prod.fst x19), int 0, int (Prod.snd x19)]])), kp (show (0 : Int) ≤ (1 : Int) ∧ (1 : Int) ≤ (↑(List.length (encs B)) : Int) ∧ (↑(List.length (encs B)) : Int) ≤ (↑(List.length (encs B)) : Int) from (by rw [Go.Vec.encs_length]; omega)), kp (show YieldC P G 0 [AV.agg [int (Prod.fst x19), int 0, int (Prod.snd x19)]] [jrng, AObj.box [AV.sl 2 false (encs A)], AObj.box [AV.sl 2 false (encs (List.drop 1 B))], AObj.box [AV.lit (Value.func (Fn.func f) { toList := [] } { toList := [] })], AObj.box [nilS], AObj.box [int (Prod.fst x19), int 0, int (Prod.snd x19)]] true [jrng, AObj.box [AV.sl 2 false (encs A)], AObj.box [AV.sl 2 false (encs (List.drop 1 B))], AObj.box [AV.lit (Value.func (Fn.func f) { toList := [] } { toList := [] })], AObj.box [nilS], AObj.box [int (Prod.fst x19), int 0, int (Prod.snd x19)]] from (by have h0 := (@hy (A) (List.drop 1 B) (Prod.fst x19) (0) (Prod.snd x19)); simp only [if_neg c21] at h0; exact h0)), kf (Eq.refl false)] (others 91 [0, 1, 2]) 5 h (by kernel_rfl)
    · have h := h.2 c16
      obtain ⟨eX, eS⟩ := h
      exact RunL.to ((show RunL P G none 5 (loopAt P 98 0) (plSt0 f A B) (AEx.exit 0) { env := slots 91 [], H := [jrng, AObj.box [AV.sl 2 false (encs A)], AObj.box [AV.sl 2 false (encs B)], AObj.box [AV.lit (Value.func (Fn.func f) { toList := [] } { toList := [] })], AObj.box [nilS]] } from loop_exit [kv 6 hz0, kf (decide_eq_false c1), kv 10 hz1, kf (decide_eq_false c16)] (others 91 []) 5 (by kernel_rfl))) eX (SubS.of_eq eS)

end Go.Vec

/- VECTOR, 5: the loop over the pairs of two vectors. -/
namespace Go.Vec
set_option maxRecDepth 100000
set_option linter.unusedSimpArgs false
set_option linter.unusedVariables false
open Go Go.Am Go.Proofs Go.Seat

theorem pl_w1 (f : Nat) (tk : Int → Int → Int) (A B : List D) (g : Nat) (v : List D) (hv : v.length ≤ 3000000000) (hy : ∀ A B v g d x y, v.length ≤ 3000000000 → YieldC P G 0 [.agg [int d, int x, int y]] (q1 f A B g v ++ [.box [int d, int x, int y]]) true (if tk x y > 0 then q1 f A B (g + 1) (v ++ [(d, tk x y)]) ++ [.box [int d, int x, int y]] else q1 f A B g v ++ [.box [int d, int x, int y]])) (hA : A.length ≤ 1000000000) (hB : B.length ≤ 1000000000) (ex : AEx) (s' : St) (h : ((((↑(List.length A) : Int) > (0 : Int)) → ((((↑(List.length B) : Int) = (0 : Int)) → (∃ x3 : D, (A[0]? = some x3) ∧ (((tk (Prod.snd x3) 0 > (0 : Int)) → RunL P G none 5 (loopAt P 98 0) { env := slots 91 [(0, AV.yl 0), (1, AV.ptr 1 0), (2, AV.ptr 2 0)], H := [jrng, AObj.box [AV.sl 2 false (encs (List.drop 1 A))], AObj.box [AV.sl 2 false (encs B)], AObj.box [AV.lit (Value.func (Fn.func f) { toList := [] } { toList := [] })], AObj.box [AV.own 7 (g + 1) 0 (List.length (v ++ [(Prod.fst x3, tk (Prod.snd x3) 0)]))], AObj.gone, AObj.gone, AObj.arr (g + 1) 2 false (encs (v ++ [(Prod.fst x3, tk (Prod.snd x3) 0)]))] } ex s') ∧ ((¬tk (Prod.snd x3) 0 > (0 : Int)) → RunL P G none 5 (loopAt P 98 0) { env := slots 91 [(0, AV.yl 0), (1, AV.ptr 1 0), (2, AV.ptr 2 0)], H := [jrng, AObj.box [AV.sl 2 false (encs (List.drop 1 A))], AObj.box [AV.sl 2 false (encs B)], AObj.box [AV.lit (Value.func (Fn.func f) { toList := [] } { toList := [] })], AObj.box [AV.own 7 g 0 (List.length v)], AObj.gone, AObj.gone, AObj.arr g 2 false (encs v)] } ex s')))) ∧ ((¬(↑(List.length B) : Int) = (0 : Int)) → (∃ x6 : D, (A[0]? = some x6) ∧ (∃ x8 : D, (B[0]? = some x8) ∧ (((Prod.fst x6 < Prod.fst x8) → (((tk (Prod.snd x6) 0 > (0 : Int)) → RunL P G none 5 (loopAt P 98 0) { env := slots 91 [(0, AV.yl 0), (1, AV.ptr 1 0), (2, AV.ptr 2 0)], H := [jrng, AObj.box [AV.sl 2 false (encs (List.drop 1 A))], AObj.box [AV.sl 2 false (encs B)], AObj.box [AV.lit (Value.func (Fn.func f) { toList := [] } { toList := [] })], AObj.box [AV.own 7 (g + 1) 0 (List.length (v ++ [(Prod.fst x6, tk (Prod.snd x6) 0)]))], AObj.gone, AObj.gone, AObj.arr (g + 1) 2 false (encs (v ++ [(Prod.fst x6, tk (Prod.snd x6) 0)]))] } ex s') ∧ ((¬tk (Prod.snd x6) 0 > (0 : Int)) → RunL P G none 5 (loopAt P 98 0) { env := slots 91 [(0, AV.yl 0), (1, AV.ptr 1 0), (2, AV.ptr 2 0)], H := [jrng, AObj.box [AV.sl 2 false (encs (List.drop 1 A))], AObj.box [AV.sl 2 false (encs B)], AObj.box [AV.lit (Value.func (Fn.func f) { toList := [] } { toList := [] })], AObj.box [AV.own 7 g 0 (List.length v)], AObj.gone, AObj.gone, AObj.arr g 2 false (encs v)] } ex s'))) ∧ ((¬Prod.fst x6 < Prod.fst x8) → (((Prod.fst x8 < Prod.fst x6) → (((tk 0 (Prod.snd x8) > (0 : Int)) → RunL P G none 5 (loopAt P 98 0) { env := slots 91 [(0, AV.yl 0), (1, AV.ptr 1 0), (2, AV.ptr 2 0)], H := [jrng, AObj.box [AV.sl 2 false (encs A)], AObj.box [AV.sl 2 false (encs (List.drop 1 B))], AObj.box [AV.lit (Value.func (Fn.func f) { toList := [] } { toList := [] })], AObj.box [AV.own 7 (g + 1) 0 (List.length (v ++ [(Prod.fst x8, tk 0 (Prod.snd x8))]))], AObj.gone, AObj.gone, AObj.arr (g + 1) 2 false (encs (v ++ [(Prod.fst x8, tk 0 (Prod.snd x8))]))] } ex s') ∧ ((¬tk 0 (Prod.snd x8) > (0 : Int)) → RunL P G none 5 (loopAt P 98 0) { env := slots 91 [(0, AV.yl 0), (1, AV.ptr 1 0), (2, AV.ptr 2 0)], H := [jrng, AObj.box [AV.sl 2 false (encs A)], AObj.box [AV.sl 2 false (encs (List.drop 1 B))], AObj.box [AV.lit (Value.func (Fn.func f) { toList := [] } { toList := [] })], AObj.box [AV.own 7 g 0 (List.length v)], AObj.gone, AObj.gone, AObj.arr g 2 false (encs v)] } ex s'))) ∧ ((¬Prod.fst x8 < Prod.fst x6) → (((tk (Prod.snd x6) (Prod.snd x8) > (0 : Int)) → RunL P G none 5 (loopAt P 98 0) { env := slots 91 [(0, AV.yl 0), (1, AV.ptr 1 0), (2, AV.ptr 2 0)], H := [jrng, AObj.box [AV.sl 2 false (encs (List.drop 1 A))], AObj.box [AV.sl 2 false (encs (List.drop 1 B))], AObj.box [AV.lit (Value.func (Fn.func f) { toList := [] } { toList := [] })], AObj.box [AV.own 7 (g + 1) 0 (List.length (v ++ [(Prod.fst x6, tk (Prod.snd x6) (Prod.snd x8))]))], AObj.gone, AObj.gone, AObj.arr (g + 1) 2 false (encs (v ++ [(Prod.fst x6, tk (Prod.snd x6) (Prod.snd x8))]))] } ex s') ∧ ((¬tk (Prod.snd x6) (Prod.snd x8) > (0 : Int)) → RunL P G none 5 (loopAt P 98 0) { env := slots 91 [(0, AV.yl 0), (1, AV.ptr 1 0), (2, AV.ptr 2 0)], H := [jrng, AObj.box [AV.sl 2 false (encs (List.drop 1 A))], AObj.box [AV.sl 2 false (encs (List.drop 1 B))], AObj.box [AV.lit (Value.func (Fn.func f) { toList := [] } { toList := [] })], AObj.box [AV.own 7 g 0 (List.length v)], AObj.gone, AObj.gone, AObj.arr g 2 false (encs v)] } ex s'))))))))))) ∧ ((¬(↑(List.length A) : Int) > (0 : Int)) → ((((↑(List.length B) : Int) > (0 : Int)) → (∃ x19 : D, (B[0]? = some x19) ∧ (((tk 0 (Prod.snd x19) > (0 : Int)) → RunL P G none 5 (loopAt P 98 0) { env := slots 91 [(0, AV.yl 0), (1, AV.ptr 1 0), (2, AV.ptr 2 0)], H := [jrng, AObj.box [AV.sl 2 false (encs A)], AObj.box [AV.sl 2 false (encs (List.drop 1 B))], AObj.box [AV.lit (Value.func (Fn.func f) { toList := [] } { toList := [] })], AObj.box [AV.own 7 (g + 1) 0 (List.length (v ++ [(Prod.fst x19, tk 0 (Prod.snd x19))]))], AObj.gone, AObj.gone, AObj.arr (g + 1) 2 false (encs (v ++ [(Prod.fst x19, tk 0 (Prod.snd x19))]))] } ex s') ∧ ((¬tk 0 (Prod.snd x19) > (0 : Int)) → RunL P G none 5 (loopAt P 98 0) { env := slots 91 [(0, AV.yl 0), (1, AV.ptr 1 0), (2, AV.ptr 2 0)], H := [jrng, AObj.box [AV.sl 2 false (encs A)], AObj.box [AV.sl 2 false (encs (List.drop 1 B))], AObj.box [AV.lit (Value.func (Fn.func f) { toList := [] } { toList := [] })], AObj.box [AV.own 7 g 0 (List.length v)], AObj.gone, AObj.gone, AObj.arr g 2 false (encs v)] } ex s')))) ∧ ((¬(↑(List.length B) : Int) > (0 : Int)) → (AEx.exit 0 = ex) ∧ ({ env := slots 91 [], H := [jrng, AObj.box [AV.sl 2 false (encs A)], AObj.box [AV.sl 2 false (encs B)], AObj.box [AV.lit (Value.func (Fn.func f) { toList := [] } { toList := [] })], AObj.box [AV.own 7 g 0 (List.length v)], AObj.gone, AObj.gone, AObj.arr g 2 false (encs v)] } = s')))))) : RunL P G none 5 (loopAt P 98 0) (plSt1 f A B g v) ex s' := by
  have hz0 : Am.Sub (int (↑(List.length (encs A)) : Int)) (int (↑(List.length A) : Int)) := (Sub.of_eq (by simp only [Go.Vec.encs_length]))
  have hz8 : ∀ (x : List AV), x ∈ encs v → AV.idsInL [] x = true := (Go.Vec.encs_ids _)
  by_cases c1 : ((↑(List.length A) : Int) > (0 : Int))
  · have h := h.1 c1
    have hz1 : Am.Sub (int (↑(List.length (encs B)) : Int)) (int (↑(List.length B) : Int)) := (Sub.of_eq (by simp only [Go.Vec.encs_length]))
    by_cases c2 : ((↑(List.length B) : Int) = (0 : Int))
    · have h := h.1 c2
      obtain ⟨x3, o4, h⟩ := h
      have hz2 : (0 : Int) ≤ (0 : Int) ∧ (encs A)[Int.toNat 0]? = some (enc x3) := (el_nat o4)
      have hz3 : Am.Sub (AV.sl 2 false (List.drop 1 (List.take (Int.toNat (↑(List.length (encs A)) : Int)) (encs A)))) (AV.sl 2 false (encs (List.drop 1 A))) := (Sub.of_eq (by simp only [Go.Vec.encs_length, Go.Vec.encs_drop, Go.Vec.encs_take, Int.toNat_natCast, List.take_length]))
      have hz4 : (0 : Int) ≤ (1 : Int) ∧ (1 : Int) ≤ (↑(List.length (encs A)) : Int) ∧ (↑(List.length (encs A)) : Int) ≤ (↑(List.length (encs A)) : Int) := (by rw [Go.Vec.encs_length]; omega)
      by_cases c5 : (tk (Prod.snd x3) 0 > (0 : Int))
      · have h := h.1 c5
        exact loop_next [kv 6 hz0, kt (decide_eq_true c1), kt (Eq.refl true), kv 32 hz1, kt (beq_iff_eq.2 c2), kt (Eq.refl true), ko (Orc.elem (enc x3)), ko (Orc.elem (enc x3)), kp hz2, kp hz2, kv 60 hz3, ko (Orc.call [] (AOut.ret (Am.bool true)) (q1 f (List.drop 1 A) B (g + 1) (v ++ [(Prod.fst x3, tk (Prod.snd x3) 0)]) ++ [AObj.box [int (Prod.fst x3), int (Prod.snd x3), int 0]])), kp hz4, kp (show YieldC P G 0 [AV.agg [int (Prod.fst x3), int (Prod.snd x3), int 0]] [jrng, AObj.box [AV.sl 2 false (encs (List.drop 1 A))], AObj.box [AV.sl 2 false (encs B)], AObj.box [AV.lit (Value.func (Fn.func f) { toList := [] } { toList := [] })], AObj.box [AV.own 7 g 0 (List.length v)], AObj.gone, AObj.gone, AObj.arr g 2 false (encs v), AObj.box [int (Prod.fst x3), int (Prod.snd x3), int 0]] true [jrng, AObj.box [AV.sl 2 false (encs (List.drop 1 A))], AObj.box [AV.sl 2 false (encs B)], AObj.box [AV.lit (Value.func (Fn.func f) { toList := [] } { toList := [] })], AObj.box [AV.own 7 (g + 1) 0 (List.length (v ++ [(Prod.fst x3, tk (Prod.snd x3) 0)]))], AObj.gone, AObj.gone, AObj.arr (g + 1) 2 false (encs (v ++ [(Prod.fst x3, tk (Prod.snd x3) 0)])), AObj.box [int (Prod.fst x3), int (Prod.snd x3), int 0]] from (by have h0 := (@hy (List.drop 1 A) (B) (v) (g) (Prod.fst x3) (Prod.snd x3) (0) (by omega)); simp only [if_pos c5] at h0; exact h0)), kf (Eq.refl false), kp (show ∀ (x : List AV), x ∈ encs (v ++ [(Prod.fst x3, tk (Prod.snd x3) 0)]) → AV.idsInL [] x = true from (Go.Vec.encs_ids _))] (others 91 [0, 1, 2]) 8 h (by kernel_rfl)
      · have h := h.2 c5
        exact loop_next [kv 6 hz0, kt (decide_eq_true c1), kt (Eq.refl true), kv 32 hz1, kt (beq_iff_eq.2 c2), kt (Eq.refl true), ko (Orc.elem (enc x3)), ko (Orc.elem (enc x3)), kp hz2, kp hz2, kv 60 hz3, ko (Orc.call [] (AOut.ret (Am.bool true)) (q1 f (List.drop 1 A) B g v ++ [AObj.box [int (Prod.fst x3), int (Prod.snd x3), int 0]])), kp hz4, kp (show YieldC P G 0 [AV.agg [int (Prod.fst x3), int (Prod.snd x3), int 0]] [jrng, AObj.box [AV.sl 2 false (encs (List.drop 1 A))], AObj.box [AV.sl 2 false (encs B)], AObj.box [AV.lit (Value.func (Fn.func f) { toList := [] } { toList := [] })], AObj.box [AV.own 7 g 0 (List.length v)], AObj.gone, AObj.gone, AObj.arr g 2 false (encs v), AObj.box [int (Prod.fst x3), int (Prod.snd x3), int 0]] true [jrng, AObj.box [AV.sl 2 false (encs (List.drop 1 A))], AObj.box [AV.sl 2 false (encs B)], AObj.box [AV.lit (Value.func (Fn.func f) { toList := [] } { toList := [] })], AObj.box [AV.own 7 g 0 (List.length v)], AObj.gone, AObj.gone, AObj.arr g 2 false (encs v), AObj.box [int (Prod.fst x3), int (Prod.snd x3), int 0]] from (by have h0 := (@hy (List.drop 1 A) (B) (v) (g) (Prod.fst x3) (Prod.snd x3) (0) (by omega)); simp only [if_neg c5] at h0; exact h0)), kf (Eq.refl false), kp hz8] (others 91 [0, 1, 2]) 8 h (by kernel_rfl)
    · have h := h.2 c2
      obtain ⟨x6, o7, h⟩ := h
      have hz9 : (0 : Int) ≤ (0 : Int) ∧ (encs A)[Int.toNat 0]? = some (enc x6) := (el_nat o7)
      obtain ⟨x8, o9, h⟩ := h
      have hz10 : (0 : Int) ≤ (0 : Int) ∧ (encs B)[Int.toNat 0]? = some (enc x8) := (el_nat o9)
      by_cases c10 : (Prod.fst x6 < Prod.fst x8)
      · have h := h.1 c10
        by_cases c11 : (tk (Prod.snd x6) 0 > (0 : Int))
        · have h := h.1 c11
          exact loop_next [kv 6 hz0, kt (decide_eq_true c1), kt (Eq.refl true), kv 32 hz1, kf (beq_eq_false_iff_ne.2 c2), kv 36 hz0, kt (decide_eq_true c1), ko (Orc.elem (enc x6)), ko (Orc.elem (enc x8)), kp hz9, kp hz10, kt (decide_eq_true c10), ko (Orc.elem (enc x6)), ko (Orc.elem (enc x6)), kp hz9, kp hz9, kv 60 (show Am.Sub (AV.sl 2 false (List.drop 1 (List.take (Int.toNat (↑(List.length (encs A)) : Int)) (encs A)))) (AV.sl 2 false (encs (List.drop 1 A))) from (Sub.of_eq (by simp only [Go.Vec.encs_length, Go.Vec.encs_drop, Go.Vec.encs_take, Int.toNat_natCast, List.take_length]))), ko (Orc.call [] (AOut.ret (Am.bool true)) (q1 f (List.drop 1 A) B (g + 1) (v ++ [(Prod.fst x6, tk (Prod.snd x6) 0)]) ++ [AObj.box [int (Prod.fst x6), int (Prod.snd x6), int 0]])), kp (show (0 : Int) ≤ (1 : Int) ∧ (1 : Int) ≤ (↑(List.length (encs A)) : Int) ∧ (↑(List.length (encs A)) : Int) ≤ (↑(List.length (encs A)) : Int) from (by rw [Go.Vec.encs_length]; omega)), kp (show YieldC P G 0 [AV.agg [int (Prod.fst x6), int (Prod.snd x6), int 0]] [jrng, AObj.box [AV.sl 2 false (encs (List.drop 1 A))], AObj.box [AV.sl 2 false (encs B)], AObj.box [AV.lit (Value.func (Fn.func f) { toList := [] } { toList := [] })], AObj.box [AV.own 7 g 0 (List.length v)], AObj.gone, AObj.gone, AObj.arr g 2 false (encs v), AObj.box [int (Prod.fst x6), int (Prod.snd x6), int 0]] true [jrng, AObj.box [AV.sl 2 false (encs (List.drop 1 A))], AObj.box [AV.sl 2 false (encs B)], AObj.box [AV.lit (Value.func (Fn.func f) { toList := [] } { toList := [] })], AObj.box [AV.own 7 (g + 1) 0 (List.length (v ++ [(Prod.fst x6, tk (Prod.snd x6) 0)]))], AObj.gone, AObj.gone, AObj.arr (g + 1) 2 false (encs (v ++ [(Prod.fst x6, tk (Prod.snd x6) 0)])), AObj.box [int (Prod.fst x6), int (Prod.snd x6), int 0]] from (by have h0 := (@hy (List.drop 1 A) (B) (v) (g) (Prod.fst x6) (Prod.snd x6) (0) (by omega)); simp only [if_pos c11] at h0; exact h0)), kf (Eq.refl false), kp (show ∀ (x : List AV), x ∈ encs (v ++ [(Prod.fst x6, tk (Prod.snd x6) 0)]) → AV.idsInL [] x = true from (Go.Vec.encs_ids _))] (others 91 [0, 1, 2]) 8 h (by kernel_rfl)
        · have h := h.2 c11
          exact loop_next [kv 6 hz0, kt (decide_eq_true c1), kt (Eq.refl true), kv 32 hz1, kf (beq_eq_false_iff_ne.2 c2), kv 36 hz0, kt (decide_eq_true c1), ko (Orc.elem (enc x6)), ko (Orc.elem (enc x8)), kp hz9, kp hz10, kt (decide_eq_true c10), ko (Orc.elem (enc x6)), ko (Orc.elem (enc x6)), kp hz9, kp hz9, kv 60 (show Am.Sub (AV.sl 2 false (List.drop 1 (List.take (Int.toNat (↑(List.length (encs A)) : Int)) (encs A)))) (AV.sl 2 false (encs (List.drop 1 A))) from (Sub.of_eq (by simp only [Go.Vec.encs_length, Go.Vec.encs_drop, Go.Vec.encs_take, Int.toNat_natCast, List.take_length]))), ko (Orc.call [] (AOut.ret (Am.bool true)) (q1 f (List.drop 1 A) B g v ++ [AObj.box [int (Prod.fst x6), int (Prod.snd x6), int 0]])), kp (show (0 : Int) ≤ (1 : Int) ∧ (1 : Int) ≤ (↑(List.length (encs A)) : Int) ∧ (↑(List.length (encs A)) : Int) ≤ (↑(List.length (encs A)) : Int) from (by rw [Go.Vec.encs_length]; omega)), kp (show YieldC P G 0 [AV.agg [int (Prod.fst x6), int (Prod.snd x6), int 0]] [jrng, AObj.box [AV.sl 2 false (encs (List.drop 1 A))], AObj.box [AV.sl 2 false (encs B)], AObj.box [AV.lit (Value.func (Fn.func f) { toList := [] } { toList := [] })], AObj.box [AV.own 7 g 0 (List.length v)], AObj.gone, AObj.gone, AObj.arr g 2 false (encs v), AObj.box [int (Prod.fst x6), int (Prod.snd x6), int 0]] true [jrng, AObj.box [AV.sl 2 false (encs (List.drop 1 A))], AObj.box [AV.sl 2 false (encs B)], AObj.box [AV.lit (Value.func (Fn.func f) { toList := [] } { toList := [] })], AObj.box [AV.own 7 g 0 (List.length v)], AObj.gone, AObj.gone, AObj.arr g 2 false (encs v), AObj.box [int (Prod.fst x6), int (Prod.snd x6), int 0]] from (by have h0 := (@hy (List.drop 1 A) (B) (v) (g) (Prod.fst x6) (Prod.snd x6) (0) (by omega)); simp only [if_neg c11] at h0; exact h0)), kf (Eq.refl false), kp hz8] (others 91 [0, 1, 2]) 8 h (by kernel_rfl)
      · have h := h.2 c10
        have hz14 : ((↑(List.length A) : Int) == 0) = false := (decide_eq_false (by omega))
        by_cases c13 : (Prod.fst x8 < Prod.fst x6)
        · have h := h.1 c13
          have hz15 : Am.Sub (AV.sl 2 false (List.drop 1 (List.take (Int.toNat (↑(List.length (encs B)) : Int)) (encs B)))) (AV.sl 2 false (encs (List.drop 1 B))) := (Sub.of_eq (by simp only [Go.Vec.encs_length, Go.Vec.encs_drop, Go.Vec.encs_take, Int.toNat_natCast, List.take_length]))
          have hz16 : (0 : Int) ≤ (1 : Int) ∧ (1 : Int) ≤ (↑(List.length (encs B)) : Int) ∧ (↑(List.length (encs B)) : Int) ≤ (↑(List.length (encs B)) : Int) := (by rw [Go.Vec.encs_length]; omega)
          by_cases c14 : (tk 0 (Prod.snd x8) > (0 : Int))
          · have h := h.1 c14
            exact loop_next [kv 6 hz0, kt (decide_eq_true c1), kt (Eq.refl true), kv 32 hz1, kf (beq_eq_false_iff_ne.2 c2), kv 36 hz0, kt (decide_eq_true c1), ko (Orc.elem (enc x6)), ko (Orc.elem (enc x8)), kp hz9, kp hz10, kf (decide_eq_false c10), kv 63 hz0, kf hz14, ko (Orc.elem (enc x8)), ko (Orc.elem (enc x6)), kp hz10, kp hz9, kt (decide_eq_true c13), ko (Orc.elem (enc x8)), ko (Orc.elem (enc x8)), kp hz10, kp hz10, kv 86 hz15, ko (Orc.call [] (AOut.ret (Am.bool true)) (q1 f A (List.drop 1 B) (g + 1) (v ++ [(Prod.fst x8, tk 0 (Prod.snd x8))]) ++ [AObj.box [int (Prod.fst x8), int 0, int (Prod.snd x8)]])), kp hz16, kp (show YieldC P G 0 [AV.agg [int (Prod.fst x8), int 0, int (Prod.snd x8)]] [jrng, AObj.box [AV.sl 2 false (encs A)], AObj.box [AV.sl 2 false (encs (List.drop 1 B))], AObj.box [AV.lit (Value.func (Fn.func f) { toList := [] } { toList := [] })], AObj.box [AV.own 7 g 0 (List.length v)], AObj.gone, AObj.gone, AObj.arr g 2 false (encs v), AObj.box [int (Prod.fst x8), int 0, int (Prod.snd x8)]] true [jrng, AObj.box [AV.sl 2 false (encs A)], AObj.box [AV.sl 2 false (encs (List.drop 1 B))], AObj.box [AV.lit (Value.func (Fn.func f) { toList := [] } { toList := [] })], AObj.box [AV.own 7 (g + 1) 0 (List.length (v ++ [(Prod.fst x8, tk 0 (Prod.snd x8))]))], AObj.gone, AObj.gone, AObj.arr (g + 1) 2 false (encs (v ++ [(Prod.fst x8, tk 0 (Prod.snd x8))])), AObj.box [int (Prod.fst x8), int 0, int (Prod.snd x8)]] from (by have h0 := (@hy (A) (List.drop 1 B) (v) (g) (Prod.fst x8) (0) (Prod.snd x8) (by omega)); simp only [if_pos c14] at h0; exact h0)), kf (Eq.refl false), kp (show ∀ (x : List AV), x ∈ encs (v ++ [(Prod.fst x8, tk 0 (Prod.snd x8))]) → AV.idsInL [] x = true from (Go.Vec.encs_ids _))] (others 91 [0, 1, 2]) 8 h (by kernel_rfl)
          · have h := h.2 c14
            exact loop_next [kv 6 hz0, kt (decide_eq_true c1), kt (Eq.refl true), kv 32 hz1, kf (beq_eq_false_iff_ne.2 c2), kv 36 hz0, kt (decide_eq_true c1), ko (Orc.elem (enc x6)), ko (Orc.elem (enc x8)), kp hz9, kp hz10, kf (decide_eq_false c10), kv 63 hz0, kf hz14, ko (Orc.elem (enc x8)), ko (Orc.elem (enc x6)), kp hz10, kp hz9, kt (decide_eq_true c13), ko (Orc.elem (enc x8)), ko (Orc.elem (enc x8)), kp hz10, kp hz10, kv 86 hz15, ko (Orc.call [] (AOut.ret (Am.bool true)) (q1 f A (List.drop 1 B) g v ++ [AObj.box [int (Prod.fst x8), int 0, int (Prod.snd x8)]])), kp hz16, kp (show YieldC P G 0 [AV.agg [int (Prod.fst x8), int 0, int (Prod.snd x8)]] [jrng, AObj.box [AV.sl 2 false (encs A)], AObj.box [AV.sl 2 false (encs (List.drop 1 B))], AObj.box [AV.lit (Value.func (Fn.func f) { toList := [] } { toList := [] })], AObj.box [AV.own 7 g 0 (List.length v)], AObj.gone, AObj.gone, AObj.arr g 2 false (encs v), AObj.box [int (Prod.fst x8), int 0, int (Prod.snd x8)]] true [jrng, AObj.box [AV.sl 2 false (encs A)], AObj.box [AV.sl 2 false (encs (List.drop 1 B))], AObj.box [AV.lit (Value.func (Fn.func f) { toList := [] } { toList := [] })], AObj.box [AV.own 7 g 0 (List.length v)], AObj.gone, AObj.gone, AObj.arr g 2 false (encs v), AObj.box [int (Prod.fst x8), int 0, int (Prod.snd x8)]] from (by have h0 := (@hy (A) (List.drop 1 B) (v) (g) (Prod.fst x8) (0) (Prod.snd x8) (by omega)); simp only [if_neg c14] at h0; exact h0)), kf (Eq.refl false), kp hz8] (others 91 [0, 1, 2]) 8 h (by kernel_rfl)
        · have h := h.2 c13
          have hz15 : Am.Sub (AV.sl 2 false (List.drop 1 (List.take (Int.toNat (↑(List.length (encs B)) : Int)) (encs B)))) (AV.sl 2 false (encs (List.drop 1 B))) := (Sub.of_eq (by simp only [Go.Vec.encs_length, Go.Vec.encs_drop, Go.Vec.encs_take, Int.toNat_natCast, List.take_length]))
          have hz16 : (0 : Int) ≤ (1 : Int) ∧ (1 : Int) ≤ (↑(List.length (encs B)) : Int) ∧ (↑(List.length (encs B)) : Int) ≤ (↑(List.length (encs B)) : Int) := (by rw [Go.Vec.encs_length]; omega)
          by_cases c15 : (tk (Prod.snd x6) (Prod.snd x8) > (0 : Int))
          · have h := h.1 c15
            exact loop_next [kv 6 hz0, kt (decide_eq_true c1), kt (Eq.refl true), kv 32 hz1, kf (beq_eq_false_iff_ne.2 c2), kv 36 hz0, kt (decide_eq_true c1), ko (Orc.elem (enc x6)), ko (Orc.elem (enc x8)), kp hz9, kp hz10, kf (decide_eq_false c10), kv 63 hz0, kf hz14, ko (Orc.elem (enc x8)), ko (Orc.elem (enc x6)), kp hz10, kp hz9, kf (decide_eq_false c13), ko (Orc.elem (enc x6)), ko (Orc.elem (enc x6)), ko (Orc.elem (enc x8)), kp hz9, kp hz9, kp hz10, kv 27 (show Am.Sub (AV.sl 2 false (List.drop 1 (List.take (Int.toNat (↑(List.length (encs A)) : Int)) (encs A)))) (AV.sl 2 false (encs (List.drop 1 A))) from (Sub.of_eq (by simp only [Go.Vec.encs_length, Go.Vec.encs_drop, Go.Vec.encs_take, Int.toNat_natCast, List.take_length]))), kp (show (0 : Int) ≤ (1 : Int) ∧ (1 : Int) ≤ (↑(List.length (encs A)) : Int) ∧ (↑(List.length (encs A)) : Int) ≤ (↑(List.length (encs A)) : Int) from (by rw [Go.Vec.encs_length]; omega)), kv 29 hz15, ko (Orc.call [] (AOut.ret (Am.bool true)) (q1 f (List.drop 1 A) (List.drop 1 B) (g + 1) (v ++ [(Prod.fst x6, tk (Prod.snd x6) (Prod.snd x8))]) ++ [AObj.box [int (Prod.fst x6), int (Prod.snd x6), int (Prod.snd x8)]])), kp hz16, kp (show YieldC P G 0 [AV.agg [int (Prod.fst x6), int (Prod.snd x6), int (Prod.snd x8)]] [jrng, AObj.box [AV.sl 2 false (encs (List.drop 1 A))], AObj.box [AV.sl 2 false (encs (List.drop 1 B))], AObj.box [AV.lit (Value.func (Fn.func f) { toList := [] } { toList := [] })], AObj.box [AV.own 7 g 0 (List.length v)], AObj.gone, AObj.gone, AObj.arr g 2 false (encs v), AObj.box [int (Prod.fst x6), int (Prod.snd x6), int (Prod.snd x8)]] true [jrng, AObj.box [AV.sl 2 false (encs (List.drop 1 A))], AObj.box [AV.sl 2 false (encs (List.drop 1 B))], AObj.box [AV.lit (Value.func (Fn.func f) { toList := [] } { toList := [] })], AObj.box [AV.own 7 (g + 1) 0 (List.length (v ++ [(Prod.fst x6, tk (Prod.snd x6) (Prod.snd x8))]))], AObj.gone, AObj.gone, AObj.arr (g + 1) 2 false (encs (v ++ [(Prod.fst x6, tk (Prod.snd x6) (Prod.snd x8))])), AObj.box [int (Prod.fst x6), int (Prod.snd x6), int (Prod.snd x8)]] from (by have h0 := (@hy (List.drop 1 A) (List.drop 1 B) (v) (g) (Prod.fst x6) (Prod.snd x6) (Prod.snd x8) (by omega)); simp only [if_pos c15] at h0; exact h0)), kf (Eq.refl false), kp (show ∀ (x : List AV), x ∈ encs (v ++ [(Prod.fst x6, tk (Prod.snd x6) (Prod.snd x8))]) → AV.idsInL [] x = true from (Go.Vec.encs_ids _))] (others 91 [0, 1, 2]) 8 h (by kernel_rfl)
          · have h := h.2 c15
            exact loop_next [kv 6 hz0, kt (decide_eq_true c1), kt (Eq.refl true), kv 32 hz1, kf (beq_eq_false_iff_ne.2 c2), kv 36 hz0, kt (decide_eq_true c1), ko (Orc.elem (enc x6)), ko (Orc.elem (enc x8)), kp hz9, kp hz10, kf (decide_eq_false c10), kv 63 hz0, kf hz14, ko (Orc.elem (enc x8)), ko (Orc.elem (enc x6)), kp hz10, kp hz9, kf (decide_eq_false c13), ko (Orc.elem (enc x6)), ko (Orc.elem (enc x6)), ko (Orc.elem (enc x8)), kp hz9, kp hz9, kp hz10, kv 27 (show Am.Sub (AV.sl 2 false (List.drop 1 (List.take (Int.toNat (↑(List.length (encs A)) : Int)) (encs A)))) (AV.sl 2 false (encs (List.drop 1 A))) from (Sub.of_eq (by simp only [Go.Vec.encs_length, Go.Vec.encs_drop, Go.Vec.encs_take, Int.toNat_natCast, List.take_length]))), kp (show (0 : Int) ≤ (1 : Int) ∧ (1 : Int) ≤ (↑(List.length (encs A)) : Int) ∧ (↑(List.length (encs A)) : Int) ≤ (↑(List.length (encs A)) : Int) from (by rw [Go.Vec.encs_length]; omega)), kv 29 hz15, ko (Orc.call [] (AOut.ret (Am.bool true)) (q1 f (List.drop 1 A) (List.drop 1 B) g v ++ [AObj.box [int (Prod.fst x6), int (Prod.snd x6), int (Prod.snd x8)]])), kp hz16, kp (show YieldC P G 0 [AV.agg [int (Prod.fst x6), int (Prod.snd x6), int (Prod.snd x8)]] [jrng, AObj.box [AV.sl 2 false (encs (List.drop 1 A))], AObj.box [AV.sl 2 false (encs (List.drop 1 B))], AObj.box [AV.lit (Value.func (Fn.func f) { toList := [] } { toList := [] })], AObj.box [AV.own 7 g 0 (List.length v)], AObj.gone, AObj.gone, AObj.arr g 2 false (encs v), AObj.box [int (Prod.fst x6), int (Prod.snd x6), int (Prod.snd x8)]] true [jrng, AObj.box [AV.sl 2 false (encs (List.drop 1 A))], AObj.box [AV.sl 2 false (encs (List.drop 1 B))], AObj.box [AV.lit (Value.func (Fn.func f) { toList := [] } { toList := [] })], AObj.box [AV.own 7 g 0 (List.length v)], AObj.gone, AObj.gone, AObj.arr g 2 false (encs v), AObj.box [int (Prod.fst x6), int (Prod.snd x6), int (Prod.snd x8)]] from (by have h0 := (@hy (List.drop 1 A) (List.drop 1 B) (v) (g) (Prod.fst x6) (Prod.snd x6) (Prod.snd x8) (by omega)); simp only [if_neg c15] at h0; exact h0)), kf (Eq.refl false), kp hz8] (others 91 [0, 1, 2]) 8 h (by kernel_rfl)
  · have h := h.2 c1
    have hz1 : Am.Sub (int (↑(List.length (encs B)) : Int)) (int (↑(List.length B) : Int)) := (Sub.of_eq (by simp only [Go.Vec.encs_length]))
    by_cases c16 : ((↑(List.length B) : Int) > (0 : Int))
    · have h := h.1 c16
      have hz23 : ((↑(List.length B) : Int) == 0) = false := (decide_eq_false (by omega))
      have hz24 : ((↑(List.length A) : Int) == 0) = true := (decide_eq_true (by omega))
      obtain ⟨x19, o20, h⟩ := h
      have hz25 : (0 : Int) ≤ (0 : Int) ∧ (encs B)[Int.toNat 0]? = some (enc x19) := (el_nat o20)
      by_cases c21 : (tk 0 (Prod.snd x19) > (0 : Int))
      · have h := h.1 c21
        exact loop_next [kv 6 hz0, kf (decide_eq_false c1), kv 10 hz1, kt (decide_eq_true c16), kv 32 hz1, kf hz23, kv 36 hz0, kf (decide_eq_false c1), kf (Eq.refl false), kv 63 hz0, kt hz24, kt (Eq.refl true), ko (Orc.elem (enc x19)), ko (Orc.elem (enc x19)), kp hz25, kp hz25, kv 86 (show Am.Sub (AV.sl 2 false (List.drop 1 (List.take (Int.toNat (↑(List.length (encs B)) : Int)) (encs B)))) (AV.sl 2 false (encs (List.drop 1 B))) from (Sub.of_eq (by simp only [Go.Vec.encs_length, Go.Vec.encs_drop, Go.Vec.encs_take, Int.toNat_natCast, List.take_length]))), ko (Orc.call [] (AOut.ret (Am.bool true)) (q1 f A (List.drop 1 B) (g + 1) (v ++ [(Prod.fst x19, tk 0 (Prod.snd x19))]) ++ [AObj.box [int (Prod.fst x19), int 0, int (Prod.snd x19)]])), kp (show (0 : Int) ≤ (1 : Int) ∧ (1 : Int) ≤ (↑(List.length (encs B)) : Int) ∧ (↑(List.length (encs B)) : Int) ≤ (↑(List.length (encs B)) : Int) from (by rw [Go.Vec.encs_length]; omega)), kp (show YieldC P G 0 [AV.agg [int (Prod.fst x19), int 0, int (Prod.snd x19)]] [jrng, AObj.box [AV.sl 2 false (encs A)], AObj.box [AV.sl 2 false (encs (List.drop 1 B))], AObj.box [AV.lit (Value.func (Fn.func f) { toList := [] } { toList := [] })], AObj.box [AV.own 7 g 0 (List.length v)], AObj.gone, AObj.gone, AObj.arr g 2 false (encs v), AObj.box [int (Prod.fst x19), int 0, int (Prod.snd x19)]] true [jrng, AObj.box [AV.sl 2 false (encs A)], AObj.box [AV.sl 2 false (encs (List.drop 1 B))], AObj.box [AV.lit (Value.func (Fn.func f) { toList := [] } { toList := [] })], AObj.box [AV.own 7 (g + 1) 0 (List.length (v ++ [(Prod.fst x19, tk 0 (Prod.snd x19))]))], AObj.gone, AObj.gone, AObj.arr (g + 1) 2 false (encs (v ++ [(Prod.fst x19, tk 0 (Prod.snd x19))])), AObj.box [int (Prod.fst x19), int 0, int (Prod.snd x19)]] from (by have h0 := (@hy (A) (List.drop 1 B) (v) (g) (Prod.fst x19) (0) (Prod.snd x19) (by omega)); simp only [if_pos c21] at h0; exact h0)), kf (Eq.refl false), kp (show ∀ (x : List AV), x ∈ encs (v ++ [(Prod.fst x19, tk 0 (Prod.snd x19))]) → AV.idsInL [] x = true from (Go.Vec.encs_ids _))] (others 91 [0, 1, 2]) 8 h (by kernel_rfl)
      · have h := h.2 c21
        exact loop_next [kv 6 hz0, kf (decide_eq_false c1), kv 10 hz1, kt (decide_eq_true c16), kv 32 hz1, kf hz23, kv 36 hz0, kf (decide_eq_false c1), kf (Eq.refl false), kv 63 hz0, kt hz24, kt (Eq.refl true), ko (Orc.elem (enc x19)), ko (Orc.elem (enc x19)), kp hz25, kp hz25, kv 86 (show Am.Sub (AV.sl 2 false (List.drop 1 (List.take (Int.toNat (↑(List.length (encs B)) : Int)) (encs B)))) (AV.sl 2 false (encs (List.drop 1 B))) from (Sub.of_eq (by simp only [Go.Vec.encs_length, Go.Vec.encs_drop, Go.Vec.encs_take, Int.toNat_natCast, List.take_length]))), ko (Orc.call [] (AOut.ret (Am.bool true)) (q1 f A (List.drop 1 B) g v ++ [AObj.box [int (Prod.fst x19), int 0, int (Prod.snd x19)]])), kp (show (0 : Int) ≤ (1 : Int) ∧ (1 : Int) ≤ (↑(List.length (encs B)) : Int) ∧ (↑(List.length (encs B)) : Int) ≤ (↑(List.length (encs B)) : Int) from (by rw [Go.Vec.encs_length]; omega)), kp (show YieldC P G 0 [AV.agg [int (Prod.fst x19), int 0, int (Prod.snd x19)]] [jrng, AObj.box [AV.sl 2 false (encs A)], AObj.box [AV.sl 2 false (encs (List.drop 1 B))], AObj.box [AV.lit (Value.func (Fn.func f) { toList := [] } { toList := [] })], AObj.box [AV.own 7 g 0 (List.length v)], AObj.gone, AObj.gone, AObj.arr g 2 false (encs v), AObj.box [int (Prod.fst x19), int 0, int (Prod.snd x19)]] true [jrng, AObj.box [AV.sl 2 false (encs A)], AObj.box [AV.sl 2 false (encs (List.drop 1 B))], AObj.box [AV.lit (Value.func (Fn.func f) { toList := [] } { toList := [] })], AObj.box [AV.own 7 g 0 (List.length v)], AObj.gone, AObj.gone, AObj.arr g 2 false (encs v), AObj.box [int (Prod.fst x19), int 0, int (Prod.snd x19)]] from (by have h0 := (@hy (A) (List.drop 1 B) (v) (g) (Prod.fst x19) (0) (Prod.snd x19) (by omega)); simp only [if_neg c21] at h0; exact h0)), kf (Eq.refl false), kp hz8] (others 91 [0, 1, 2]) 8 h (by kernel_rfl)
    · have h := h.2 c16
      obtain ⟨eX, eS⟩ := h
      exact RunL.to ((show RunL P G none 5 (loopAt P 98 0) (plSt1 f A B g v) (AEx.exit 0) { env := slots 91 [], H := [jrng, AObj.box [AV.sl 2 false (encs A)], AObj.box [AV.sl 2 false (encs B)], AObj.box [AV.lit (Value.func (Fn.func f) { toList := [] } { toList := [] })], AObj.box [AV.own 7 g 0 (List.length v)], AObj.gone, AObj.gone, AObj.arr g 2 false (encs v)] } from loop_exit [kv 6 hz0, kf (decide_eq_false c1), kv 10 hz1, kf (decide_eq_false c16)] (others 91 []) 8 (by kernel_rfl))) eX (SubS.of_eq eS)

end Go.Vec

/- VECTOR, 6: what the rounds over the pairs come to; the program's Join and Meet. -/
namespace Go.Vec
set_option maxRecDepth 100000
set_option linter.unusedSimpArgs false
set_option linter.unusedVariables false
open Go Go.Am Go.Proofs Go.Seat

/-- The pairs of two lists, merged; n: at least so many as both have. -/
def prN : Nat → List D → List D → List (Int × Int × Int)
  | 0, _, _ => []
  | _ + 1, [], [] => []
  | n + 1, x :: a, [] => (x.1, x.2, 0) :: prN n a []
  | n + 1, [], y :: b => (y.1, 0, y.2) :: prN n [] b
  | n + 1, x :: a, y :: b => if x.1 < y.1 then (x.1, x.2, 0) :: prN n a (y :: b) else if y.1 < x.1 then (y.1, 0, y.2) :: prN n (x :: a) b else (x.1, x.2, y.2) :: prN n a b
theorem prN_len : ∀ (n : Nat) (a b : List D), (prN n a b).length ≤ n
  | 0, _, _ => Nat.le_refl _
  | _ + 1, [], [] => Nat.zero_le _
  | n + 1, x :: a, [] => by simp only [prN, List.length_cons]; have := prN_len n a []; omega
  | n + 1, [], y :: b => by simp only [prN, List.length_cons]; have := prN_len n [] b; omega
  | n + 1, x :: a, y :: b => by
    have h1 := prN_len n (x :: a) b
    have h2 := prN_len n a (y :: b)
    have h3 := prN_len n a b
    simp only [prN]
    split
    · simp only [List.length_cons]; omega
    · split <;> (simp only [List.length_cons]; omega)
def ruleF (tk : Int → Int → Int) (p : Int × Int × Int) : Option D := if tk p.2.1 p.2.2 > 0 then some (p.1, tk p.2.1 p.2.2) else none

/-- What one round does to what is left. -/
def prStep (A B : List D) (p : Int × Int × Int) (A' B' : List D) : Prop := A'.length + B'.length + 1 ≤ A.length + B.length ∧ A'.length ≤ A.length ∧ B'.length ≤ B.length ∧ ∀ n, prN (n + 1) A B = p :: prN n A' B'

theorem pr_arms (A B : List D) :
    (∀ x, A[0]? = some x → B.length = 0 → prStep A B (x.1, x.2, 0) (A.drop 1) B) ∧
    (∀ x y, A[0]? = some x → B[0]? = some y → x.1 < y.1 → prStep A B (x.1, x.2, 0) (A.drop 1) B) ∧
    (∀ x y, A[0]? = some x → B[0]? = some y → ¬ x.1 < y.1 → y.1 < x.1 → prStep A B (y.1, 0, y.2) A (B.drop 1)) ∧
    (∀ x y, A[0]? = some x → B[0]? = some y → ¬ x.1 < y.1 → ¬ y.1 < x.1 → prStep A B (x.1, x.2, y.2) (A.drop 1) (B.drop 1)) ∧
    (∀ y, A.length = 0 → B[0]? = some y → prStep A B (y.1, 0, y.2) A (B.drop 1)) := by
  have hd : ∀ {l : List D} {x}, l[0]? = some x → l = x :: l.drop 1 := fun {l x} h => by
    cases l with
    | nil => simp at h
    | cons y t => simp at h; simp [h]
  refine ⟨fun x hx hb => ?_, fun x y hx hy h1 => ?_, fun x y hx hy h1 h2 => ?_, fun x y hx hy h1 h2 => ?_, fun y ha hy => ?_⟩
  · have eb : B = [] := List.eq_nil_of_length_eq_zero hb
    subst eb
    have ea := hd hx
    generalize hA : A.drop 1 = A' at ea
    subst ea
    exact ⟨by simp, by simp, by simp, fun n => rfl⟩
  · have ea := hd hx
    generalize hA : A.drop 1 = A' at ea
    subst ea
    have eb := hd hy
    generalize hB : B.drop 1 = B' at eb
    subst eb
    exact ⟨by simp; omega, by simp, by simp, fun n => by simp only [prN]; rw [if_pos h1]⟩
  · have ea := hd hx
    generalize hA : A.drop 1 = A' at ea
    subst ea
    have eb := hd hy
    generalize hB : B.drop 1 = B' at eb ⊢
    subst eb
    exact ⟨by simp; omega, by simp, by simp, fun n => by simp only [prN]; rw [if_neg h1, if_pos h2]⟩
  · have ea := hd hx
    generalize hA : A.drop 1 = A' at ea ⊢
    subst ea
    have eb := hd hy
    generalize hB : B.drop 1 = B' at eb ⊢
    subst eb
    exact ⟨by simp; omega, by simp, by simp, fun n => by simp only [prN]; rw [if_neg h1, if_neg h2]⟩
  · have ea : A = [] := List.eq_nil_of_length_eq_zero ha
    subst ea
    have eb := hd hy
    generalize hB : B.drop 1 = B' at eb ⊢
    subst eb
    exact ⟨by simp, by simp, by simp, fun n => rfl⟩

noncomputable def plOut (f g : Nat) (v : List D) : St := { env := slots 91 [], H := q1 f [] [] g v }
noncomputable def plFin (f : Nat) (t : List D) : St := { env := slots 91 [], H := if t = [] then q0 f [] [] else q1 f [] [] (t.length - 1) t }

section
variable (f : Nat) (tk : Int → Int → Int)
  (hy0 : ∀ A B d x y, YieldC P G 0 [.agg [int d, int x, int y]] (q0 f A B ++ [.box [int d, int x, int y]]) true (if tk x y > 0 then q1 f A B 0 [(d, tk x y)] else q0 f A B ++ [.box [int d, int x, int y]]))
  (hy1 : ∀ A B v g d x y, v.length ≤ 3000000000 → YieldC P G 0 [.agg [int d, int x, int y]] (q1 f A B g v ++ [.box [int d, int x, int y]]) true (if tk x y > 0 then q1 f A B (g + 1) (v ++ [(d, tk x y)]) ++ [.box [int d, int x, int y]] else q1 f A B g v ++ [.box [int d, int x, int y]]))
 include hy1
theorem pl_loop1 : ∀ n A B g v, A.length + B.length ≤ n → A.length ≤ 1000000000 → B.length ≤ 1000000000 → v.length + n ≤ 3000000000 →
    RunL P G none 5 (loopAt P 98 0) (plSt1 f A B g v) (.exit 0) (plOut f (g + ((prN n A B).filterMap (ruleF tk)).length) (v ++ (prN n A B).filterMap (ruleF tk))) := by
  intro n
  induction n with
  | zero =>
    intro A B g v hn hA hB hv
    have ea : A = [] := List.eq_nil_of_length_eq_zero (by omega)
    have eb : B = [] := List.eq_nil_of_length_eq_zero (by omega)
    subst ea eb
    refine pl_w1 f tk [] [] g v (by omega) hy1 hA hB _ _ ⟨fun h => absurd h (by simp), fun _ => ⟨fun h => absurd h (by simp), fun _ => ⟨rfl, ?_⟩⟩⟩
    simp only [prN, List.filterMap_nil, List.append_nil, List.length_nil, Nat.add_zero]
    rfl
  | succ n ih =>
    intro A B g v hn hA hB hv
    obtain ⟨s1, s2, s3, s4, s5⟩ := pr_arms A B
    have fin : ∀ {p A' B'}, prStep A B p A' B' →
        (tk p.2.1 p.2.2 > 0 → RunL P G none 5 (loopAt P 98 0) (plSt1 f A' B' (g + 1) (v ++ [(p.1, tk p.2.1 p.2.2)])) (.exit 0) (plOut f (g + ((prN (n + 1) A B).filterMap (ruleF tk)).length) (v ++ (prN (n + 1) A B).filterMap (ruleF tk)))) ∧
        (¬ tk p.2.1 p.2.2 > 0 → RunL P G none 5 (loopAt P 98 0) (plSt1 f A' B' g v) (.exit 0) (plOut f (g + ((prN (n + 1) A B).filterMap (ruleF tk)).length) (v ++ (prN (n + 1) A B).filterMap (ruleF tk)))) := fun {p A' B'} h => by
      refine ⟨fun hp => ?_, fun hp => ?_⟩
      · have := ih A' B' (g + 1) (v ++ [(p.1, tk p.2.1 p.2.2)]) (by have := h.1; omega) (by have := h.2.1; omega) (by have := h.2.2.1; omega) (by simp; omega)
        have e : ruleF tk p = some (p.1, tk p.2.1 p.2.2) := if_pos hp
        rw [h.2.2.2 n, List.filterMap_cons_some e, List.length_cons, show g + (((prN n A' B').filterMap (ruleF tk)).length + 1) = g + 1 + ((prN n A' B').filterMap (ruleF tk)).length by omega, show v ++ (p.1, tk p.2.1 p.2.2) :: (prN n A' B').filterMap (ruleF tk) = v ++ [(p.1, tk p.2.1 p.2.2)] ++ (prN n A' B').filterMap (ruleF tk) by simp]
        exact this
      · have := ih A' B' g v (by have := h.1; omega) (by have := h.2.1; omega) (by have := h.2.2.1; omega) (by omega)
        have e : ruleF tk p = none := if_neg hp
        rw [h.2.2.2 n, List.filterMap_cons_none e]
        exact this
    have gx : ∀ {l : List D}, ((l.length : Int) > 0) → ∃ x, l[0]? = some x := fun h => ⟨_, List.getElem?_eq_getElem (by omega)⟩
    refine pl_w1 f tk A B g v (by omega) hy1 hA hB _ _ ⟨fun h => ?_, fun h => ⟨fun h' => ?_, fun h' => ⟨rfl, ?_⟩⟩⟩
    · obtain ⟨x, hx⟩ := gx h
      refine ⟨fun h' => ⟨x, hx, fin (s1 x hx (by omega))⟩, fun h' => ?_⟩
      obtain ⟨y, hy⟩ := gx (l := B) (by omega)
      exact ⟨x, hx, y, hy, ⟨fun h1 => fin (s2 x y hx hy h1), fun h1 => ⟨fun h2 => fin (s3 x y hx hy h1 h2), fun h2 => fin (s4 x y hx hy h1 h2)⟩⟩⟩
    · obtain ⟨y, hy⟩ := gx h'
      exact ⟨y, hy, fin (s5 y (by omega) hy)⟩
    · have ea : A = [] := List.eq_nil_of_length_eq_zero (by omega)
      have eb : B = [] := List.eq_nil_of_length_eq_zero (by omega)
      subst ea eb
      simp only [prN, List.filterMap_nil, List.append_nil, List.length_nil, Nat.add_zero]
      rfl
 include hy0
theorem pl_loop0 : ∀ n A B, A.length + B.length ≤ n → A.length ≤ 1000000000 → B.length ≤ 1000000000 → n ≤ 2000000000 →
    RunL P G none 5 (loopAt P 98 0) (plSt0 f A B) (.exit 0) (plFin f ((prN n A B).filterMap (ruleF tk))) := by
  intro n
  induction n with
  | zero =>
    intro A B hn hA hB hv
    have ea : A = [] := List.eq_nil_of_length_eq_zero (by omega)
    have eb : B = [] := List.eq_nil_of_length_eq_zero (by omega)
    subst ea eb
    refine pl_w0 f tk [] [] hy0 hA hB _ _ ⟨fun h => absurd h (by simp), fun _ => ⟨fun h => absurd h (by simp), fun _ => ⟨rfl, ?_⟩⟩⟩
    rfl
  | succ n ih =>
    intro A B hn hA hB hv
    obtain ⟨s1, s2, s3, s4, s5⟩ := pr_arms A B
    have fin : ∀ {p A' B'}, prStep A B p A' B' →
        (tk p.2.1 p.2.2 > 0 → RunL P G none 5 (loopAt P 98 0) (plSt1 f A' B' 0 [(p.1, tk p.2.1 p.2.2)]) (.exit 0) (plFin f ((prN (n + 1) A B).filterMap (ruleF tk)))) ∧
        (¬ tk p.2.1 p.2.2 > 0 → RunL P G none 5 (loopAt P 98 0) (plSt0 f A' B') (.exit 0) (plFin f ((prN (n + 1) A B).filterMap (ruleF tk)))) := fun {p A' B'} h => by
      refine ⟨fun hp => ?_, fun hp => ?_⟩
      · have := pl_loop1 f tk hy1 n A' B' 0 [(p.1, tk p.2.1 p.2.2)] (by have := h.1; omega) (by have := h.2.1; omega) (by have := h.2.2.1; omega) (by simp; omega)
        have e : ruleF tk p = some (p.1, tk p.2.1 p.2.2) := if_pos hp
        rw [h.2.2.2 n, List.filterMap_cons_some e]
        have hne : ¬ (p.1, tk p.2.1 p.2.2) :: (prN n A' B').filterMap (ruleF tk) = [] := by simp
        unfold plFin
        rw [if_neg hne]
        rw [Nat.zero_add] at this
        exact this
      · have := ih A' B' (by have := h.1; omega) (by have := h.2.1; omega) (by have := h.2.2.1; omega) (by omega)
        have e : ruleF tk p = none := if_neg hp
        rw [h.2.2.2 n, List.filterMap_cons_none e]
        exact this
    have gx : ∀ {l : List D}, ((l.length : Int) > 0) → ∃ x, l[0]? = some x := fun h => ⟨_, List.getElem?_eq_getElem (by omega)⟩
    refine pl_w0 f tk A B hy0 hA hB _ _ ⟨fun h => ?_, fun h => ⟨fun h' => ?_, fun h' => ⟨rfl, ?_⟩⟩⟩
    · obtain ⟨x, hx⟩ := gx h
      refine ⟨fun h' => ⟨x, hx, fin (s1 x hx (by omega))⟩, fun h' => ?_⟩
      obtain ⟨y, hy⟩ := gx (l := B) (by omega)
      exact ⟨x, hx, y, hy, ⟨fun h1 => fin (s2 x y hx hy h1), fun h1 => ⟨fun h2 => fin (s3 x y hx hy h1 h2), fun h2 => fin (s4 x y hx hy h1 h2)⟩⟩⟩
    · obtain ⟨y, hy⟩ := gx h'
      exact ⟨y, hy, fin (s5 y (by omega) hy)⟩
    · have ea : A = [] := List.eq_nil_of_length_eq_zero (by omega)
      have eb : B = [] := List.eq_nil_of_length_eq_zero (by omega)
      subst ea eb
      rfl
end

def mergeV (tk : Int → Int → Int) (a b : List D) : List D := (prN (a.length + b.length) a b).filterMap (ruleF tk)

theorem pl_g (a b : List D) (ha : a.length ≤ 1000000000) (hb : b.length ≤ 1000000000) : RunL P G none 5 (loopAt P 98 0) (plSt0 125 a b) (.exit 0) { env := slots 91 [], H := if mergeV gmax a b = [] then q0 125 [] [] else q1 125 [] [] ((mergeV gmax a b).length - 1) (mergeV gmax a b) } :=
  pl_loop0 125 gmax gy0 gy1 _ a b (Nat.le_refl _) ha hb (by omega)
theorem p37g_w (a b : List D) (ha : a.length ≤ 1000000000) (hb : b.length ≤ 1000000000) (h : (((mergeV gmax a b = []) → [jrng, AObj.box [AV.sl 2 false []], AObj.box [AV.sl 2 false []], AObj.box [AV.lit (Value.func (Fn.func 125) { toList := [] } { toList := [] })], AObj.box [nilS]] = if mergeV gmax a b = [] then q0 125 [] [] else q1 125 [] [] (List.length (mergeV gmax a b) - 1) (mergeV gmax a b)) ∧ ((¬mergeV gmax a b = []) → [jrng, AObj.box [AV.sl 2 false []], AObj.box [AV.sl 2 false []], AObj.box [AV.lit (Value.func (Fn.func 125) { toList := [] } { toList := [] })], AObj.box [AV.own 7 (List.length (mergeV gmax a b) - 1) 0 (List.length (mergeV gmax a b))], AObj.gone, AObj.gone, AObj.arr (List.length (mergeV gmax a b) - 1) 2 false (encs (mergeV gmax a b))] = if mergeV gmax a b = [] then q0 125 [] [] else q1 125 [] [] (List.length (mergeV gmax a b) - 1) (mergeV gmax a b)))) : CallC P G 98 [AV.yl 0, AV.ptr 1 0, AV.ptr 2 0] (q0 125 a b) (AOut.ret (AV.tup [])) (if mergeV gmax a b = [] then q0 125 [] [] else q1 125 [] [] (List.length (mergeV gmax a b) - 1) (mergeV gmax a b)) := by
  by_cases c1 : (mergeV gmax a b = [])
  · have h := h.1 c1
    have eH := h
    exact CallC.heap ((show CallC P G 98 [AV.yl 0, AV.ptr 1 0, AV.ptr 2 0] (q0 125 a b) (AOut.ret (AV.tup [])) [jrng, AObj.box [AV.sl 2 false []], AObj.box [AV.sl 2 false []], AObj.box [AV.lit (Value.func (Fn.func 125) { toList := [] } { toList := [] })], AObj.box [nilS]] from callC_of [kl [3, 4, 5, 6, 7, 8, 9, 10, 11, 12, 13, 14, 15, 16, 17, 18, 19, 20, 21, 22, 23, 24, 25, 26, 27, 28, 29, 30, 31, 32, 33, 34, 35, 36, 37, 38, 39, 40, 41, 42, 43, 44, 45, 46, 47, 48, 49, 50, 51, 52, 53, 54, 55, 56, 57, 58, 59, 60, 61, 62, 63, 64, 65, 66, 67, 68, 69, 70, 71, 72, 73, 74, 75, 76, 77, 78, 79, 80, 81, 82, 83, 84, 85, 86, 87, 88, 89, 90] 5 (show RunL P G none 5 (loopAt P 98 0) { env := slots 91 [(0, AV.yl 0), (1, AV.ptr 1 0), (2, AV.ptr 2 0)], H := [jrng, AObj.box [AV.sl 2 false (encs a)], AObj.box [AV.sl 2 false (encs b)], AObj.box [AV.lit (Value.func (Fn.func 125) { toList := [] } { toList := [] })], AObj.box [nilS]] } (AEx.exit 0) { env := slots 91 [], H := [jrng, AObj.box [AV.sl 2 false []], AObj.box [AV.sl 2 false []], AObj.box [AV.lit (Value.func (Fn.func 125) { toList := [] } { toList := [] })], AObj.box [nilS]] } from (by have h0 := (@Go.Vec.pl_g (a) (b) (by omega) (by omega)); simp only [if_pos c1] at h0; exact h0))] (by kernel_rfl))) eH
  · have h := h.2 c1
    have eH := h
    exact CallC.heap ((show CallC P G 98 [AV.yl 0, AV.ptr 1 0, AV.ptr 2 0] (q0 125 a b) (AOut.ret (AV.tup [])) [jrng, AObj.box [AV.sl 2 false []], AObj.box [AV.sl 2 false []], AObj.box [AV.lit (Value.func (Fn.func 125) { toList := [] } { toList := [] })], AObj.box [AV.own 7 (List.length (mergeV gmax a b) - 1) 0 (List.length (mergeV gmax a b))], AObj.gone, AObj.gone, AObj.arr (List.length (mergeV gmax a b) - 1) 2 false (encs (mergeV gmax a b))] from callC_of [kl [3, 4, 5, 6, 7, 8, 9, 10, 11, 12, 13, 14, 15, 16, 17, 18, 19, 20, 21, 22, 23, 24, 25, 26, 27, 28, 29, 30, 31, 32, 33, 34, 35, 36, 37, 38, 39, 40, 41, 42, 43, 44, 45, 46, 47, 48, 49, 50, 51, 52, 53, 54, 55, 56, 57, 58, 59, 60, 61, 62, 63, 64, 65, 66, 67, 68, 69, 70, 71, 72, 73, 74, 75, 76, 77, 78, 79, 80, 81, 82, 83, 84, 85, 86, 87, 88, 89, 90] 5 (show RunL P G none 5 (loopAt P 98 0) { env := slots 91 [(0, AV.yl 0), (1, AV.ptr 1 0), (2, AV.ptr 2 0)], H := [jrng, AObj.box [AV.sl 2 false (encs a)], AObj.box [AV.sl 2 false (encs b)], AObj.box [AV.lit (Value.func (Fn.func 125) { toList := [] } { toList := [] })], AObj.box [nilS]] } (AEx.exit 0) { env := slots 91 [], H := [jrng, AObj.box [AV.sl 2 false []], AObj.box [AV.sl 2 false []], AObj.box [AV.lit (Value.func (Fn.func 125) { toList := [] } { toList := [] })], AObj.box [AV.own 7 (List.length (mergeV gmax a b) - 1) 0 (List.length (mergeV gmax a b))], AObj.gone, AObj.gone, AObj.arr (List.length (mergeV gmax a b) - 1) 2 false (encs (mergeV gmax a b))] } from (by have h0 := (@Go.Vec.pl_g (a) (b) (by omega) (by omega)); simp only [if_neg c1] at h0; exact h0))] (by kernel_rfl))) eH

theorem p37g_c (a b : List D) (ha : a.length ≤ 1000000000) (hb : b.length ≤ 1000000000) : CallC P G 98 [.yl 0, .ptr 1 0, .ptr 2 0] (q0 125 a b) (.ret (.tup [])) (if mergeV gmax a b = [] then q0 125 [] [] else q1 125 [] [] ((mergeV gmax a b).length - 1) (mergeV gmax a b)) :=
  p37g_w a b ha hb ⟨fun h => by rw [if_pos h]; rfl, fun h => by rw [if_neg h]; rfl⟩
theorem mg_w (a b : List D) (ha : a.length ≤ 1000000000) (hb : b.length ≤ 1000000000) (he : check2E a b = 0) (h : (((mergeV gmax a b = []) → ([]) = (mergeV gmax a b)) ∧ ((¬mergeV gmax a b = []) → True))) : CallC P G 59 [AV.agg [rl 125], vec a, vec b] [] (AOut.ret (AV.tup [vec (mergeV gmax a b), int 0])) [] := by
  have hz0 := (@Go.Vec.check2_c (a) (b) (by omega) (by omega))
  have hz1 : (check2E a b != 0) = false := (congrArg Bool.not (decide_eq_true (by omega)))
  have hz2 := (@Go.Vec.pairs_c (a) (b))
  by_cases c2 : (mergeV gmax a b = [])
  · have h := h.1 c2
    have e1 := h
    exact CallC.out ((show CallC P G 59 [AV.agg [rl 125], vec a, vec b] [] (AOut.ret (AV.tup [nilS, int 0])) [] from callC_of [kc [] hz0, kf hz1, kc [] hz2, ko (Orc.range [0, 1, 2, 4, 5, 7, 8, 9, 10, 11, 12, 13, 14, 15, 16, 17, 18, 19, 20, 21, 22, 23, 24, 25, 26, 27, 28, 29, 30, 31, 32, 33, 34] 0 none AEx.normal [] []), kc [5, 2, 3, 0, 1] (show CallC P G 98 [AV.yl 0, AV.ptr 1 0, AV.ptr 2 0] [AObj.rng LoopState.ready none (slots 35 [(3, AV.ptr 3 0), (6, AV.ptr 4 0)]) { toList := [20] } (asgAt P 59 0) (rbodyAt P 59 0), AObj.box [AV.sl 2 false (encs a)], AObj.box [AV.sl 2 false (encs b)], AObj.box [AV.lit (Value.func (Fn.func 125) { toList := [] } { toList := [] })], AObj.box [nilS]] (AOut.ret (AV.tup [])) [jrng, AObj.box [AV.sl 2 false []], AObj.box [AV.sl 2 false []], AObj.box [AV.lit (Value.func (Fn.func 125) { toList := [] } { toList := [] })], AObj.box [nilS]] from (by have h0 := (@Go.Vec.p37g_c (a) (b) (by omega) (by omega)); simp only [if_pos c2] at h0; exact h0))] (by kernel_rfl))) (Sub.tups ⟨(Sub.nil_eq (congrArg (List.map enc) e1)), Sub.refl _, trivial⟩)
  · have h := h.2 c2
    have _ := h
    exact callC_of [kc [] hz0, kf hz1, kc [] hz2, ko (Orc.range [0, 1, 2, 4, 5, 7, 8, 9, 10, 11, 12, 13, 14, 15, 16, 17, 18, 19, 20, 21, 22, 23, 24, 25, 26, 27, 28, 29, 30, 31, 32, 33, 34] 0 none AEx.normal [] []), kc [5, 2, 3, 0, 1] (show CallC P G 98 [AV.yl 0, AV.ptr 1 0, AV.ptr 2 0] [AObj.rng LoopState.ready none (slots 35 [(3, AV.ptr 3 0), (6, AV.ptr 4 0)]) { toList := [20] } (asgAt P 59 0) (rbodyAt P 59 0), AObj.box [AV.sl 2 false (encs a)], AObj.box [AV.sl 2 false (encs b)], AObj.box [AV.lit (Value.func (Fn.func 125) { toList := [] } { toList := [] })], AObj.box [nilS]] (AOut.ret (AV.tup [])) [jrng, AObj.box [AV.sl 2 false []], AObj.box [AV.sl 2 false []], AObj.box [AV.lit (Value.func (Fn.func 125) { toList := [] } { toList := [] })], AObj.box [AV.own 7 (List.length (mergeV gmax a b) - 1) 0 (List.length (mergeV gmax a b))], AObj.gone, AObj.gone, AObj.arr (List.length (mergeV gmax a b) - 1) 2 false (encs (mergeV gmax a b))] from (by have h0 := (@Go.Vec.p37g_c (a) (b) (by omega) (by omega)); simp only [if_neg c2] at h0; exact h0)), ko (Orc.fz (some 34) (encs (mergeV gmax a b))), kp (show ∀ (x : List AV), x ∈ encs (mergeV gmax a b) → AV.idsInL [] x = true from (Go.Vec.encs_ids _)), kp (show List.length (mergeV gmax a b) - 1 = List.length (mergeV gmax a b) - 1 from (rfl)), kp (show List.take (List.length (mergeV gmax a b)) (List.drop 0 (encs (mergeV gmax a b))) = encs (mergeV gmax a b) from (Go.Vec.encs_all _)), kp (show List.length (encs (mergeV gmax a b)) = List.length (mergeV gmax a b) from (Go.Vec.encs_length _)), kp (show ∀ (c : List AV), c ∈ encs (mergeV gmax a b) → List.all c AV.pureB = true from (Go.Vec.encs_pure _))] (by kernel_rfl)

end Go.Vec

/- VECTOR, 3: the reference's Join, Meet, Compare and With. -/
namespace Go.Vec
set_option maxRecDepth 100000
set_option linter.unusedSimpArgs false
set_option linter.unusedVariables false
open Go Go.Am Go.Proofs Go.Seat

end Go.Vec

/- VECTOR, 7: the program's Join, Meet, With and Compare; the reference's With. -/
namespace Go.Vec
set_option maxRecDepth 100000
set_option linter.unusedSimpArgs false
set_option linter.unusedVariables false
open Go Go.Am Go.Proofs Go.Seat

theorem mg_c (a b : List D) (ha : a.length ≤ 1000000000) (hb : b.length ≤ 1000000000) (he : check2E a b = 0) : CallC P G 59 [.agg [rl 125], vec a, vec b] [] (.ret (.tup [vec (mergeV gmax a b), int 0])) [] :=
  mg_w a b ha hb he ⟨fun h => h.symm, fun _ => trivial⟩

theorem mg_e (a b : List D) (ha : a.length ≤ 1000000000) (hb : b.length ≤ 1000000000) (he : ¬ check2E a b = 0) (f : Nat) (h : True) : CallC P G 59 [AV.agg [rl f], vec a, vec b] [] (AOut.ret (AV.tup [vec [], int (check2E a b)])) [] := by
  have _ := h
  exact CallC.out ((show CallC P G 59 [AV.agg [rl f], vec a, vec b] [] (AOut.ret (AV.tup [nilS, int (check2E a b)])) [] from callC_of [kc [] (@Go.Vec.check2_c (a) (b) (by omega) (by omega)), kt (show (check2E a b != 0) = true from (congrArg Bool.not (decide_eq_false (by omega))))] (by kernel_rfl))) (Sub.tups ⟨Sub.nil _, Sub.refl _, trivial⟩)

theorem mg_ec (f : Nat) (a b : List D) (ha : a.length ≤ 1000000000) (hb : b.length ≤ 1000000000) (he : ¬ check2E a b = 0) : CallC P G 59 [.agg [rl f], vec a, vec b] [] (.ret (.tup [vec [], int (check2E a b)])) [] := mg_e a b ha hb he f trivial

/-! Join, Meet, With -/
def joinE (a b : List D) : List D := if check2E a b = 0 then mergeV gmax a b else []
theorem mg_j (a b : List D) (ha : a.length ≤ 1000000000) (hb : b.length ≤ 1000000000) : CallC P G 59 [.agg [rl 125], vec a, vec b] [] (.ret (.tup [vec (joinE a b), int (check2E a b)])) [] := by
  unfold joinE
  by_cases h : check2E a b = 0
  · rw [if_pos h, h]; exact mg_c a b ha hb h
  · rw [if_neg h]; exact mg_ec 125 a b ha hb h
theorem join_w (a b : List D) (ha : a.length ≤ 1000000000) (hb : b.length ≤ 1000000000) (h : True) : CallC P G 24 [vec a, vec b] [] (AOut.ret (AV.tup [vec (joinE a b), int (check2E a b)])) [] := by
  have _ := h
  exact callC_of [kc [] (@Go.Vec.mg_j (a) (b) (by omega) (by omega))] (by kernel_rfl)

theorem join_c (a b : List D) (ha : a.length ≤ 1000000000) (hb : b.length ≤ 1000000000) : CallC P G 24 [vec a, vec b] [] (.ret (.tup [vec (joinE a b), int (check2E a b)])) [] := join_w a b ha hb trivial

theorem with_w (a : List D) (x y : Int) (ha : a.length ≤ 1000000000) (h : True) : CallC P G 27 [vec a, dot (x, y)] [] (AOut.ret (AV.tup [vec (joinE a [(x, y)]), int (check2E a [(x, y)])])) [] := by
  have _ := h
  exact callC_of [kc [] (show CallC P G 24 [AV.sl 2 false (encs a), AV.sl 2 true [[int x, int y]]] [] (AOut.ret (AV.tup [AV.sl 2 false (encs (joinE a [(x, y)])), int (check2E a [(x, y)])])) [] from (CallC.args' (@Go.Vec.join_c (a) ([(x, y)]) (by omega) (by simp only [List.length_append, List.length_cons, List.length_nil, List.length_map] <;> omega)) ⟨Sub.refl _, Sub.loose _ _ _, trivial⟩))] (by kernel_rfl)

theorem with_c (a : List D) (x y : Int) (ha : a.length ≤ 1000000000) : CallC P G 27 [vec a, dot (x, y)] [] (.ret (.tup [vec (joinE a [(x, y)]), int (check2E a [(x, y)])])) [] := with_w a x y ha trivial

/-! The reference's -/
/-! Compare -/
end Go.Vec

/- VECTOR, 8: Compare; the reference's With. -/
namespace Go.Vec
set_option maxRecDepth 100000
set_option linter.unusedSimpArgs false
set_option linter.unusedVariables false
open Go Go.Am Go.Proofs Go.Seat

def lessP (ps : List (Int × Int × Int)) : Bool := ps.any fun p => decide (p.2.1 < p.2.2)
def moreP (ps : List (Int × Int × Int)) : Bool := ps.any fun p => decide (p.2.1 > p.2.2)

def lessV (a b : List D) : Bool := lessP (prN (a.length + b.length) a b)
def moreV (a b : List D) : Bool := moreP (prN (a.length + b.length) a b)
def cmpV (a b : List D) : Int := if lessV a b = true then (if moreV a b = true then 2 else -1) else if moreV a b = true then 1 else 0
end Go.Vec

/- OPS, 3: the program's Check. -/
namespace Go.Ops
set_option maxRecDepth 100000
set_option linter.unusedSimpArgs false
set_option linter.unusedVariables false
open Go Go.Am Go.Proofs Go.Seat Go.Vec Go.Cdc

/-! The kinds -/
def zK : AV := .lit (.agg #[.int .i64 0, .nilFunc])
theorem key_ok (k : Int) (h : -9223372036854775808 ≤ k ∧ k < 9223372036854775808) : ∃ l, keyOf P 3 (.int .i64 k) = some l :=
  ⟨_, Maps.keyOf_int_mk Tryd.underlying3 (by simp [Lit.wf, IntKind.min, IntKind.max, IntKind.signed, IntKind.bits]; omega)⟩
theorem kinds_ok : ∀ e ∈ kindsE, ∃ l, keyOf P 3 e.1 = some l := by
  intro e he
  simp only [kindsE, List.mem_cons, List.not_mem_nil, or_false] at he
  rcases he with rfl | rfl | rfl | rfl | rfl | rfl | rfl | rfl <;> exact key_ok _ (by decide)
def partOf (k : Int) : Int := if k = 1 ∨ k = 2 then 1 else if k = 3 ∨ k = 4 then 2 else if k = 5 then 3 else if k = 6 ∨ k = 7 ∨ k = 8 then 4 else 0
theorem kg {k p : Int} {f : Nat} (hk : -9223372036854775808 ≤ k ∧ k < 9223372036854775808) (h : (.int .i64 k, .agg [int p, fnV f]) ∈ kindsE) : MapGet P 3 kindsE (.int .i64 k) zK (.agg [int p, fnV f]) true :=
  ⟨Maps.int_keyed Tryd.underlying3, key_ok k hk, kinds_ok, .inl ⟨rfl, h⟩⟩
theorem kg1 : MapGet P 3 kindsE (.int .i64 1) zK (.agg [int 1, fnV 115]) true := kg (by decide) (by simp [kindsE])
theorem kg2 : MapGet P 3 kindsE (.int .i64 2) zK (.agg [int 1, fnV 117]) true := kg (by decide) (by simp [kindsE])
theorem kg3 : MapGet P 3 kindsE (.int .i64 3) zK (.agg [int 2, fnV 119]) true := kg (by decide) (by simp [kindsE])
theorem kg4 : MapGet P 3 kindsE (.int .i64 4) zK (.agg [int 2, fnV 120]) true := kg (by decide) (by simp [kindsE])
theorem kg5 : MapGet P 3 kindsE (.int .i64 5) zK (.agg [int 3, fnV 121]) true := kg (by decide) (by simp [kindsE])
theorem kg6 : MapGet P 3 kindsE (.int .i64 6) zK (.agg [int 4, fnV 122]) true := kg (by decide) (by simp [kindsE])
theorem kg7 : MapGet P 3 kindsE (.int .i64 7) zK (.agg [int 4, fnV 123]) true := kg (by decide) (by simp [kindsE])
theorem kg8 : MapGet P 3 kindsE (.int .i64 8) zK (.agg [int 4, fnV 124]) true := kg (by decide) (by simp [kindsE])
theorem kgn (k : Int) (hk : -9223372036854775808 ≤ k ∧ k < 9223372036854775808) (h : k < 1 ∨ 8 < k) : MapGet P 3 kindsE (.int .i64 k) zK zK false :=
  ⟨Maps.int_keyed Tryd.underlying3, key_ok k hk, kinds_ok, .inr ⟨rfl, rfl, fun e he => by
    simp only [kindsE, List.mem_cons, List.not_mem_nil, or_false] at he
    rcases he with rfl | rfl | rfl | rfl | rfl | rfl | rfl | rfl <;> (intro hq; simp only [Value.int.injEq, true_and] at hq; omega)⟩⟩

/-! Check: what fails first -/
theorem chkA (o : OP) (l : List D) (f : Int) (hw : CallC P G 27 [nilS, dot (o.dv, o.sq)] [] (.ret (.tup [vec l, int f])) []) (hf : ¬ f = 0) (h : True) : CallC P G 12 [op o] [] (AOut.ret (int 170)) [] := by
  have _ := h
  exact callC_of [kc [] (@hw ), kt (show (f != 0) = true from (congrArg Bool.not (decide_eq_false (by omega)))), kt (Eq.refl true), kt (Eq.refl true), kt (Eq.refl true), kt (Eq.refl true)] (by kernel_rfl)

theorem chkB (o : OP) (l : List D) (hw : CallC P G 27 [nilS, dot (o.dv, o.sq)] [] (.ret (.tup [vec l, int 0])) []) (ht : o.tm < 1) (h : True) : CallC P G 12 [op o] [] (AOut.ret (int 170)) [] := by
  have _ := h
  exact callC_of [kc [] (@hw ), kf (Eq.refl false), kt (show decide (OP.tm o < (1 : Int)) = true from (decide_eq_true (by omega))), kt (Eq.refl true), kt (Eq.refl true), kt (Eq.refl true)] (by kernel_rfl)

theorem chkC (o : OP) (l : List D) (hw : CallC P G 27 [nilS, dot (o.dv, o.sq)] [] (.ret (.tup [vec l, int 0])) []) (ht : 1 ≤ o.tm) (ht2 : 1099511627776 < o.tm) (h : True) : CallC P G 12 [op o] [] (AOut.ret (int 170)) [] := by
  have _ := h
  exact callC_of [kc [] (@hw ), kf (Eq.refl false), kf (show decide (OP.tm o < (1 : Int)) = false from (decide_eq_false (by omega))), kt (show decide (OP.tm o > (1099511627776 : Int)) = true from (decide_eq_true (by omega))), kt (Eq.refl true), kt (Eq.refl true)] (by kernel_rfl)

theorem chkD (o : OP) (l : List D) (f : Int) (hw : CallC P G 27 [nilS, dot (o.dv, o.sq)] [] (.ret (.tup [vec l, int 0])) []) (ht : 1 ≤ o.tm) (ht2 : o.tm ≤ 1099511627776) (hv : CallC P G 25 [vec o.cx] [] (.ret (int f)) []) (hf : ¬ f = 0) (h : True) : CallC P G 12 [op o] [] (AOut.ret (int 170)) [] := by
  have _ := h
  exact callC_of [kc [] (@hw ), kf (Eq.refl false), kf (show decide (OP.tm o < (1 : Int)) = false from (decide_eq_false (by omega))), kf (show decide (OP.tm o > (1099511627776 : Int)) = false from (decide_eq_false (by omega))), kc [] (@hv ), kt (show (f != 0) = true from (congrArg Bool.not (decide_eq_false (by omega)))), kt (Eq.refl true)] (by kernel_rfl)

theorem chkE (o : OP) (l : List D) (hw : CallC P G 27 [nilS, dot (o.dv, o.sq)] [] (.ret (.tup [vec l, int 0])) []) (ht : 1 ≤ o.tm) (ht2 : o.tm ≤ 1099511627776) (hv : CallC P G 25 [vec o.cx] [] (.ret (int 0)) []) (hc : CallC P G 26 [vec o.cx, dot (o.dv, o.sq)] [] (.ret (bool true)) []) (h : True) : CallC P G 12 [op o] [] (AOut.ret (int 170)) [] := by
  have _ := h
  exact callC_of [kc [] (@hw ), kf (Eq.refl false), kf (show decide (OP.tm o < (1 : Int)) = false from (decide_eq_false (by omega))), kf (show decide (OP.tm o > (1099511627776 : Int)) = false from (decide_eq_false (by omega))), kc [] (@hv ), kf (Eq.refl false), kc [] (@hc ), kt (Eq.refl true)] (by kernel_rfl)

theorem chkF (o : OP) (l : List D) (hw : CallC P G 27 [nilS, dot (o.dv, o.sq)] [] (.ret (.tup [vec l, int 0])) []) (ht : 1 ≤ o.tm) (ht2 : o.tm ≤ 1099511627776) (hv : CallC P G 25 [vec o.cx] [] (.ret (int 0)) []) (hc : CallC P G 26 [vec o.cx, dot (o.dv, o.sq)] [] (.ret (bool false)) []) (hm : MapGet P 3 kindsE (.int .i64 o.kd) zK zK false) (h : True) : CallC P G 12 [op o] [] (AOut.ret (int 170)) [] := by
  have _ := h
  exact callC_of [kc [] (@hw ), kf (Eq.refl false), kf (show decide (OP.tm o < (1 : Int)) = false from (decide_eq_false (by omega))), kf (show decide (OP.tm o > (1099511627776 : Int)) = false from (decide_eq_false (by omega))), kc [] (@hv ), kf (Eq.refl false), kc [] (@hc ), kf (Eq.refl false), ko (Orc.mget zK false), kp (@hm ), kt (Eq.refl true), kt (Eq.refl true), kt (Eq.refl true), kt (Eq.refl true), kt (Eq.refl true)] (by kernel_rfl)

/-! Check: each kind -/

theorem chk1 (o : OP) (l : List D) (b : Bool) (v : Int) (hcx : o.cx.length ≤ 1000000000) (hw : CallC P G 27 [nilS, dot (o.dv, o.sq)] [] (.ret (.tup [vec l, int 0])) []) (ht : 1 ≤ o.tm) (ht2 : o.tm ≤ 1099511627776) (hv : CallC P G 25 [vec o.cx] [] (.ret (int 0)) []) (hc : CallC P G 26 [vec o.cx, dot (o.dv, o.sq)] [] (.ret (bool false)) []) (hk : CallC P G 115 [opk o 1] [] (.ret (bool b)) []) (hr : CallC P G 32 [opk o 1] [] (.ret (op (restO o 1))) []) (hs : CallC P G 16 [op (restO o 1), op zop] [] (.ret (bool (decide (restO o 1 = zop)))) []) (h : (((OP.pk o = (1 : Int)) → ((((↑(ByteArray.size (OP.pn o)) : Int) > (64 : Int)) → (170 : Int) = (v)) ∧ ((¬(↑(ByteArray.size (OP.pn o)) : Int) > (64 : Int)) → ((((b) = true) → (((restO o 1 = zop) → (0 : Int) = (v)) ∧ ((¬restO o 1 = zop) → (170 : Int) = (v)))) ∧ (((b) = false) → (170 : Int) = (v)))))) ∧ ((¬OP.pk o = (1 : Int)) → (170 : Int) = (v)))) : CallC P G 12 [opk o 1] [] (AOut.ret (int v)) [] := by
  have hz0 := (@hw )
  have hz1 : decide (OP.tm o < (1 : Int)) = false := (decide_eq_false (by omega))
  have hz2 : decide (OP.tm o > (1099511627776 : Int)) = false := (decide_eq_false (by omega))
  have hz3 := (@hv )
  have hz4 := (@hc )
  have hz5 := (@Go.Ops.kg1 )
  have hz7 := (@hk )
  have hz9 := (@hr )
  have hz10 : CallC P G 16 [AV.agg [int (OP.dv (restO o 1)), int (OP.sq (restO o 1)), int (OP.tm (restO o 1)), AV.sl 2 false [], int (OP.pk (restO o 1)), str (OP.pn (restO o 1)), int (OP.kd (restO o 1)), int (OP.f1 (restO o 1)), int (OP.f2 (restO o 1)), int (OP.f3 (restO o 1)), int (OP.t1 (restO o 1)), int (OP.t2 (restO o 1)), int (OP.t3 (restO o 1)), str (OP.ky (restO o 1)), str (OP.vl (restO o 1)), int (OP.n (restO o 1)), Am.bool (OP.on (restO o 1))], AV.agg [int 0, int 0, int 0, nilS, int 0, str { data := #[] }, int 0, int 0, int 0, int 0, int 0, int 0, int 0, str { data := #[] }, str { data := #[] }, int 0, Am.bool false]] [] (AOut.ret (Am.bool (decide (restO o 1 = zop)))) [] := (CallC.args' (@hs ) ⟨Sub.refl _, Sub.aggs ⟨Sub.refl _, Sub.refl _, Sub.refl _, Sub.nil _, Sub.refl _, Sub.refl _, Sub.refl _, Sub.refl _, Sub.refl _, Sub.refl _, Sub.refl _, Sub.refl _, Sub.refl _, Sub.refl _, Sub.refl _, Sub.refl _, Sub.refl _, trivial⟩, trivial⟩)
  by_cases c3 : (OP.pk o = (1 : Int))
  · have h := h.1 c3
    have hz6 : (OP.pk o != 1) = false := (congrArg Bool.not (beq_iff_eq.2 c3))
    by_cases c4 : ((↑(ByteArray.size (OP.pn o)) : Int) > (64 : Int))
    · have h := h.1 c4
      have e1 := h
      exact callC_out (Sub.int_eq e1) [kc [] hz0, kf (Eq.refl false), kf hz1, kf hz2, kc [] hz3, kf (Eq.refl false), kc [] hz4, kf (Eq.refl false), ko (Orc.mget (AV.agg [int 1, fnV 115]) true), kp hz5, kf (Eq.refl false), kf hz6, kt (decide_eq_true c4), kt (Eq.refl true), kt (Eq.refl true)] (by kernel_rfl)
    · have h := h.2 c4
      rcases Bool.eq_false_or_eq_true ((b)) with c5 | c5
      · have h := h.1 c5
        have hz8 : (!b) = false := (congrArg Bool.not (c5))
        by_cases c6 : (restO o 1 = zop)
        · have h := h.1 c6
          have e1 := h
          exact callC_out (Sub.int_eq e1) [kc [] hz0, kf (Eq.refl false), kf hz1, kf hz2, kc [] hz3, kf (Eq.refl false), kc [] hz4, kf (Eq.refl false), ko (Orc.mget (AV.agg [int 1, fnV 115]) true), kp hz5, kf (Eq.refl false), kf hz6, kf (decide_eq_false c4), kc [] hz7, kf hz8, kc [] hz9, kc [] hz10, kf (show (!decide (restO o 1 = zop)) = false from (congrArg Bool.not (decide_eq_true c6)))] (by kernel_rfl)
        · have h := h.2 c6
          have e1 := h
          exact callC_out (Sub.int_eq e1) [kc [] hz0, kf (Eq.refl false), kf hz1, kf hz2, kc [] hz3, kf (Eq.refl false), kc [] hz4, kf (Eq.refl false), ko (Orc.mget (AV.agg [int 1, fnV 115]) true), kp hz5, kf (Eq.refl false), kf hz6, kf (decide_eq_false c4), kc [] hz7, kf hz8, kc [] hz9, kc [] hz10, kt (show (!decide (restO o 1 = zop)) = true from (congrArg Bool.not (decide_eq_false c6)))] (by kernel_rfl)
      · have h := h.2 c5
        have e1 := h
        exact callC_out (Sub.int_eq e1) [kc [] hz0, kf (Eq.refl false), kf hz1, kf hz2, kc [] hz3, kf (Eq.refl false), kc [] hz4, kf (Eq.refl false), ko (Orc.mget (AV.agg [int 1, fnV 115]) true), kp hz5, kf (Eq.refl false), kf hz6, kf (decide_eq_false c4), kc [] hz7, kt (show (!b) = true from (congrArg Bool.not (c5))), kt (Eq.refl true)] (by kernel_rfl)
  · have h := h.2 c3
    have e1 := h
    exact callC_out (Sub.int_eq e1) [kc [] hz0, kf (Eq.refl false), kf hz1, kf hz2, kc [] hz3, kf (Eq.refl false), kc [] hz4, kf (Eq.refl false), ko (Orc.mget (AV.agg [int 1, fnV 115]) true), kp hz5, kf (Eq.refl false), kt (show (OP.pk o != 1) = true from (congrArg Bool.not (beq_eq_false_iff_ne.2 c3))), kt (Eq.refl true), kt (Eq.refl true), kt (Eq.refl true)] (by kernel_rfl)

theorem chk2 (o : OP) (l : List D) (b : Bool) (v : Int) (hcx : o.cx.length ≤ 1000000000) (hw : CallC P G 27 [nilS, dot (o.dv, o.sq)] [] (.ret (.tup [vec l, int 0])) []) (ht : 1 ≤ o.tm) (ht2 : o.tm ≤ 1099511627776) (hv : CallC P G 25 [vec o.cx] [] (.ret (int 0)) []) (hc : CallC P G 26 [vec o.cx, dot (o.dv, o.sq)] [] (.ret (bool false)) []) (hk : CallC P G 117 [opk o 2] [] (.ret (bool b)) []) (hr : CallC P G 32 [opk o 2] [] (.ret (op (restO o 2))) []) (hs : CallC P G 16 [op (restO o 2), op zop] [] (.ret (bool (decide (restO o 2 = zop)))) []) (h : (((OP.pk o = (1 : Int)) → ((((↑(ByteArray.size (OP.pn o)) : Int) > (64 : Int)) → (170 : Int) = (v)) ∧ ((¬(↑(ByteArray.size (OP.pn o)) : Int) > (64 : Int)) → ((((b) = true) → (((restO o 2 = zop) → (0 : Int) = (v)) ∧ ((¬restO o 2 = zop) → (170 : Int) = (v)))) ∧ (((b) = false) → (170 : Int) = (v)))))) ∧ ((¬OP.pk o = (1 : Int)) → (170 : Int) = (v)))) : CallC P G 12 [opk o 2] [] (AOut.ret (int v)) [] := by
  have hz0 := (@hw )
  have hz1 : decide (OP.tm o < (1 : Int)) = false := (decide_eq_false (by omega))
  have hz2 : decide (OP.tm o > (1099511627776 : Int)) = false := (decide_eq_false (by omega))
  have hz3 := (@hv )
  have hz4 := (@hc )
  have hz5 := (@Go.Ops.kg2 )
  have hz7 := (@hk )
  have hz9 := (@hr )
  have hz10 : CallC P G 16 [AV.agg [int (OP.dv (restO o 2)), int (OP.sq (restO o 2)), int (OP.tm (restO o 2)), AV.sl 2 false [], int (OP.pk (restO o 2)), str (OP.pn (restO o 2)), int (OP.kd (restO o 2)), int (OP.f1 (restO o 2)), int (OP.f2 (restO o 2)), int (OP.f3 (restO o 2)), int (OP.t1 (restO o 2)), int (OP.t2 (restO o 2)), int (OP.t3 (restO o 2)), str (OP.ky (restO o 2)), str (OP.vl (restO o 2)), int (OP.n (restO o 2)), Am.bool (OP.on (restO o 2))], AV.agg [int 0, int 0, int 0, nilS, int 0, str { data := #[] }, int 0, int 0, int 0, int 0, int 0, int 0, int 0, str { data := #[] }, str { data := #[] }, int 0, Am.bool false]] [] (AOut.ret (Am.bool (decide (restO o 2 = zop)))) [] := (CallC.args' (@hs ) ⟨Sub.refl _, Sub.aggs ⟨Sub.refl _, Sub.refl _, Sub.refl _, Sub.nil _, Sub.refl _, Sub.refl _, Sub.refl _, Sub.refl _, Sub.refl _, Sub.refl _, Sub.refl _, Sub.refl _, Sub.refl _, Sub.refl _, Sub.refl _, Sub.refl _, Sub.refl _, trivial⟩, trivial⟩)
  by_cases c3 : (OP.pk o = (1 : Int))
  · have h := h.1 c3
    have hz6 : (OP.pk o != 1) = false := (congrArg Bool.not (beq_iff_eq.2 c3))
    by_cases c4 : ((↑(ByteArray.size (OP.pn o)) : Int) > (64 : Int))
    · have h := h.1 c4
      have e1 := h
      exact callC_out (Sub.int_eq e1) [kc [] hz0, kf (Eq.refl false), kf hz1, kf hz2, kc [] hz3, kf (Eq.refl false), kc [] hz4, kf (Eq.refl false), ko (Orc.mget (AV.agg [int 1, fnV 117]) true), kp hz5, kf (Eq.refl false), kf hz6, kt (decide_eq_true c4), kt (Eq.refl true), kt (Eq.refl true)] (by kernel_rfl)
    · have h := h.2 c4
      rcases Bool.eq_false_or_eq_true ((b)) with c5 | c5
      · have h := h.1 c5
        have hz8 : (!b) = false := (congrArg Bool.not (c5))
        by_cases c6 : (restO o 2 = zop)
        · have h := h.1 c6
          have e1 := h
          exact callC_out (Sub.int_eq e1) [kc [] hz0, kf (Eq.refl false), kf hz1, kf hz2, kc [] hz3, kf (Eq.refl false), kc [] hz4, kf (Eq.refl false), ko (Orc.mget (AV.agg [int 1, fnV 117]) true), kp hz5, kf (Eq.refl false), kf hz6, kf (decide_eq_false c4), kc [] hz7, kf hz8, kc [] hz9, kc [] hz10, kf (show (!decide (restO o 2 = zop)) = false from (congrArg Bool.not (decide_eq_true c6)))] (by kernel_rfl)
        · have h := h.2 c6
          have e1 := h
          exact callC_out (Sub.int_eq e1) [kc [] hz0, kf (Eq.refl false), kf hz1, kf hz2, kc [] hz3, kf (Eq.refl false), kc [] hz4, kf (Eq.refl false), ko (Orc.mget (AV.agg [int 1, fnV 117]) true), kp hz5, kf (Eq.refl false), kf hz6, kf (decide_eq_false c4), kc [] hz7, kf hz8, kc [] hz9, kc [] hz10, kt (show (!decide (restO o 2 = zop)) = true from (congrArg Bool.not (decide_eq_false c6)))] (by kernel_rfl)
      · have h := h.2 c5
        have e1 := h
        exact callC_out (Sub.int_eq e1) [kc [] hz0, kf (Eq.refl false), kf hz1, kf hz2, kc [] hz3, kf (Eq.refl false), kc [] hz4, kf (Eq.refl false), ko (Orc.mget (AV.agg [int 1, fnV 117]) true), kp hz5, kf (Eq.refl false), kf hz6, kf (decide_eq_false c4), kc [] hz7, kt (show (!b) = true from (congrArg Bool.not (c5))), kt (Eq.refl true)] (by kernel_rfl)
  · have h := h.2 c3
    have e1 := h
    exact callC_out (Sub.int_eq e1) [kc [] hz0, kf (Eq.refl false), kf hz1, kf hz2, kc [] hz3, kf (Eq.refl false), kc [] hz4, kf (Eq.refl false), ko (Orc.mget (AV.agg [int 1, fnV 117]) true), kp hz5, kf (Eq.refl false), kt (show (OP.pk o != 1) = true from (congrArg Bool.not (beq_eq_false_iff_ne.2 c3))), kt (Eq.refl true), kt (Eq.refl true), kt (Eq.refl true)] (by kernel_rfl)

theorem chk3 (o : OP) (l : List D) (b : Bool) (v : Int) (hcx : o.cx.length ≤ 1000000000) (hw : CallC P G 27 [nilS, dot (o.dv, o.sq)] [] (.ret (.tup [vec l, int 0])) []) (ht : 1 ≤ o.tm) (ht2 : o.tm ≤ 1099511627776) (hv : CallC P G 25 [vec o.cx] [] (.ret (int 0)) []) (hc : CallC P G 26 [vec o.cx, dot (o.dv, o.sq)] [] (.ret (bool false)) []) (hk : CallC P G 119 [opk o 3] [] (.ret (bool b)) []) (hr : CallC P G 32 [opk o 3] [] (.ret (op (restO o 3))) []) (hs : CallC P G 16 [op (restO o 3), op zop] [] (.ret (bool (decide (restO o 3 = zop)))) []) (h : (((OP.pk o = (2 : Int)) → ((((↑(ByteArray.size (OP.pn o)) : Int) > (64 : Int)) → (170 : Int) = (v)) ∧ ((¬(↑(ByteArray.size (OP.pn o)) : Int) > (64 : Int)) → ((((b) = true) → (((restO o 3 = zop) → (0 : Int) = (v)) ∧ ((¬restO o 3 = zop) → (170 : Int) = (v)))) ∧ (((b) = false) → (170 : Int) = (v)))))) ∧ ((¬OP.pk o = (2 : Int)) → (170 : Int) = (v)))) : CallC P G 12 [opk o 3] [] (AOut.ret (int v)) [] := by
  have hz0 := (@hw )
  have hz1 : decide (OP.tm o < (1 : Int)) = false := (decide_eq_false (by omega))
  have hz2 : decide (OP.tm o > (1099511627776 : Int)) = false := (decide_eq_false (by omega))
  have hz3 := (@hv )
  have hz4 := (@hc )
  have hz5 := (@Go.Ops.kg3 )
  have hz7 := (@hk )
  have hz9 := (@hr )
  have hz10 : CallC P G 16 [AV.agg [int (OP.dv (restO o 3)), int (OP.sq (restO o 3)), int (OP.tm (restO o 3)), AV.sl 2 false [], int (OP.pk (restO o 3)), str (OP.pn (restO o 3)), int (OP.kd (restO o 3)), int (OP.f1 (restO o 3)), int (OP.f2 (restO o 3)), int (OP.f3 (restO o 3)), int (OP.t1 (restO o 3)), int (OP.t2 (restO o 3)), int (OP.t3 (restO o 3)), str (OP.ky (restO o 3)), str (OP.vl (restO o 3)), int (OP.n (restO o 3)), Am.bool (OP.on (restO o 3))], AV.agg [int 0, int 0, int 0, nilS, int 0, str { data := #[] }, int 0, int 0, int 0, int 0, int 0, int 0, int 0, str { data := #[] }, str { data := #[] }, int 0, Am.bool false]] [] (AOut.ret (Am.bool (decide (restO o 3 = zop)))) [] := (CallC.args' (@hs ) ⟨Sub.refl _, Sub.aggs ⟨Sub.refl _, Sub.refl _, Sub.refl _, Sub.nil _, Sub.refl _, Sub.refl _, Sub.refl _, Sub.refl _, Sub.refl _, Sub.refl _, Sub.refl _, Sub.refl _, Sub.refl _, Sub.refl _, Sub.refl _, Sub.refl _, Sub.refl _, trivial⟩, trivial⟩)
  by_cases c3 : (OP.pk o = (2 : Int))
  · have h := h.1 c3
    have hz6 : (OP.pk o != 2) = false := (congrArg Bool.not (beq_iff_eq.2 c3))
    by_cases c4 : ((↑(ByteArray.size (OP.pn o)) : Int) > (64 : Int))
    · have h := h.1 c4
      have e1 := h
      exact callC_out (Sub.int_eq e1) [kc [] hz0, kf (Eq.refl false), kf hz1, kf hz2, kc [] hz3, kf (Eq.refl false), kc [] hz4, kf (Eq.refl false), ko (Orc.mget (AV.agg [int 2, fnV 119]) true), kp hz5, kf (Eq.refl false), kf hz6, kt (decide_eq_true c4), kt (Eq.refl true), kt (Eq.refl true)] (by kernel_rfl)
    · have h := h.2 c4
      rcases Bool.eq_false_or_eq_true ((b)) with c5 | c5
      · have h := h.1 c5
        have hz8 : (!b) = false := (congrArg Bool.not (c5))
        by_cases c6 : (restO o 3 = zop)
        · have h := h.1 c6
          have e1 := h
          exact callC_out (Sub.int_eq e1) [kc [] hz0, kf (Eq.refl false), kf hz1, kf hz2, kc [] hz3, kf (Eq.refl false), kc [] hz4, kf (Eq.refl false), ko (Orc.mget (AV.agg [int 2, fnV 119]) true), kp hz5, kf (Eq.refl false), kf hz6, kf (decide_eq_false c4), kc [] hz7, kf hz8, kc [] hz9, kc [] hz10, kf (show (!decide (restO o 3 = zop)) = false from (congrArg Bool.not (decide_eq_true c6)))] (by kernel_rfl)
        · have h := h.2 c6
          have e1 := h
          exact callC_out (Sub.int_eq e1) [kc [] hz0, kf (Eq.refl false), kf hz1, kf hz2, kc [] hz3, kf (Eq.refl false), kc [] hz4, kf (Eq.refl false), ko (Orc.mget (AV.agg [int 2, fnV 119]) true), kp hz5, kf (Eq.refl false), kf hz6, kf (decide_eq_false c4), kc [] hz7, kf hz8, kc [] hz9, kc [] hz10, kt (show (!decide (restO o 3 = zop)) = true from (congrArg Bool.not (decide_eq_false c6)))] (by kernel_rfl)
      · have h := h.2 c5
        have e1 := h
        exact callC_out (Sub.int_eq e1) [kc [] hz0, kf (Eq.refl false), kf hz1, kf hz2, kc [] hz3, kf (Eq.refl false), kc [] hz4, kf (Eq.refl false), ko (Orc.mget (AV.agg [int 2, fnV 119]) true), kp hz5, kf (Eq.refl false), kf hz6, kf (decide_eq_false c4), kc [] hz7, kt (show (!b) = true from (congrArg Bool.not (c5))), kt (Eq.refl true)] (by kernel_rfl)
  · have h := h.2 c3
    have e1 := h
    exact callC_out (Sub.int_eq e1) [kc [] hz0, kf (Eq.refl false), kf hz1, kf hz2, kc [] hz3, kf (Eq.refl false), kc [] hz4, kf (Eq.refl false), ko (Orc.mget (AV.agg [int 2, fnV 119]) true), kp hz5, kf (Eq.refl false), kt (show (OP.pk o != 2) = true from (congrArg Bool.not (beq_eq_false_iff_ne.2 c3))), kt (Eq.refl true), kt (Eq.refl true), kt (Eq.refl true)] (by kernel_rfl)

theorem chk4 (o : OP) (l : List D) (b : Bool) (v : Int) (hcx : o.cx.length ≤ 1000000000) (hw : CallC P G 27 [nilS, dot (o.dv, o.sq)] [] (.ret (.tup [vec l, int 0])) []) (ht : 1 ≤ o.tm) (ht2 : o.tm ≤ 1099511627776) (hv : CallC P G 25 [vec o.cx] [] (.ret (int 0)) []) (hc : CallC P G 26 [vec o.cx, dot (o.dv, o.sq)] [] (.ret (bool false)) []) (hk : CallC P G 120 [opk o 4] [] (.ret (bool b)) []) (hr : CallC P G 32 [opk o 4] [] (.ret (op (restO o 4))) []) (hs : CallC P G 16 [op (restO o 4), op zop] [] (.ret (bool (decide (restO o 4 = zop)))) []) (h : (((OP.pk o = (2 : Int)) → ((((↑(ByteArray.size (OP.pn o)) : Int) > (64 : Int)) → (170 : Int) = (v)) ∧ ((¬(↑(ByteArray.size (OP.pn o)) : Int) > (64 : Int)) → ((((b) = true) → (((restO o 4 = zop) → (0 : Int) = (v)) ∧ ((¬restO o 4 = zop) → (170 : Int) = (v)))) ∧ (((b) = false) → (170 : Int) = (v)))))) ∧ ((¬OP.pk o = (2 : Int)) → (170 : Int) = (v)))) : CallC P G 12 [opk o 4] [] (AOut.ret (int v)) [] := by
  have hz0 := (@hw )
  have hz1 : decide (OP.tm o < (1 : Int)) = false := (decide_eq_false (by omega))
  have hz2 : decide (OP.tm o > (1099511627776 : Int)) = false := (decide_eq_false (by omega))
  have hz3 := (@hv )
  have hz4 := (@hc )
  have hz5 := (@Go.Ops.kg4 )
  have hz7 := (@hk )
  have hz9 := (@hr )
  have hz10 : CallC P G 16 [AV.agg [int (OP.dv (restO o 4)), int (OP.sq (restO o 4)), int (OP.tm (restO o 4)), AV.sl 2 false [], int (OP.pk (restO o 4)), str (OP.pn (restO o 4)), int (OP.kd (restO o 4)), int (OP.f1 (restO o 4)), int (OP.f2 (restO o 4)), int (OP.f3 (restO o 4)), int (OP.t1 (restO o 4)), int (OP.t2 (restO o 4)), int (OP.t3 (restO o 4)), str (OP.ky (restO o 4)), str (OP.vl (restO o 4)), int (OP.n (restO o 4)), Am.bool (OP.on (restO o 4))], AV.agg [int 0, int 0, int 0, nilS, int 0, str { data := #[] }, int 0, int 0, int 0, int 0, int 0, int 0, int 0, str { data := #[] }, str { data := #[] }, int 0, Am.bool false]] [] (AOut.ret (Am.bool (decide (restO o 4 = zop)))) [] := (CallC.args' (@hs ) ⟨Sub.refl _, Sub.aggs ⟨Sub.refl _, Sub.refl _, Sub.refl _, Sub.nil _, Sub.refl _, Sub.refl _, Sub.refl _, Sub.refl _, Sub.refl _, Sub.refl _, Sub.refl _, Sub.refl _, Sub.refl _, Sub.refl _, Sub.refl _, Sub.refl _, Sub.refl _, trivial⟩, trivial⟩)
  by_cases c3 : (OP.pk o = (2 : Int))
  · have h := h.1 c3
    have hz6 : (OP.pk o != 2) = false := (congrArg Bool.not (beq_iff_eq.2 c3))
    by_cases c4 : ((↑(ByteArray.size (OP.pn o)) : Int) > (64 : Int))
    · have h := h.1 c4
      have e1 := h
      exact callC_out (Sub.int_eq e1) [kc [] hz0, kf (Eq.refl false), kf hz1, kf hz2, kc [] hz3, kf (Eq.refl false), kc [] hz4, kf (Eq.refl false), ko (Orc.mget (AV.agg [int 2, fnV 120]) true), kp hz5, kf (Eq.refl false), kf hz6, kt (decide_eq_true c4), kt (Eq.refl true), kt (Eq.refl true)] (by kernel_rfl)
    · have h := h.2 c4
      rcases Bool.eq_false_or_eq_true ((b)) with c5 | c5
      · have h := h.1 c5
        have hz8 : (!b) = false := (congrArg Bool.not (c5))
        by_cases c6 : (restO o 4 = zop)
        · have h := h.1 c6
          have e1 := h
          exact callC_out (Sub.int_eq e1) [kc [] hz0, kf (Eq.refl false), kf hz1, kf hz2, kc [] hz3, kf (Eq.refl false), kc [] hz4, kf (Eq.refl false), ko (Orc.mget (AV.agg [int 2, fnV 120]) true), kp hz5, kf (Eq.refl false), kf hz6, kf (decide_eq_false c4), kc [] hz7, kf hz8, kc [] hz9, kc [] hz10, kf (show (!decide (restO o 4 = zop)) = false from (congrArg Bool.not (decide_eq_true c6)))] (by kernel_rfl)
        · have h := h.2 c6
          have e1 := h
          exact callC_out (Sub.int_eq e1) [kc [] hz0, kf (Eq.refl false), kf hz1, kf hz2, kc [] hz3, kf (Eq.refl false), kc [] hz4, kf (Eq.refl false), ko (Orc.mget (AV.agg [int 2, fnV 120]) true), kp hz5, kf (Eq.refl false), kf hz6, kf (decide_eq_false c4), kc [] hz7, kf hz8, kc [] hz9, kc [] hz10, kt (show (!decide (restO o 4 = zop)) = true from (congrArg Bool.not (decide_eq_false c6)))] (by kernel_rfl)
      · have h := h.2 c5
        have e1 := h
        exact callC_out (Sub.int_eq e1) [kc [] hz0, kf (Eq.refl false), kf hz1, kf hz2, kc [] hz3, kf (Eq.refl false), kc [] hz4, kf (Eq.refl false), ko (Orc.mget (AV.agg [int 2, fnV 120]) true), kp hz5, kf (Eq.refl false), kf hz6, kf (decide_eq_false c4), kc [] hz7, kt (show (!b) = true from (congrArg Bool.not (c5))), kt (Eq.refl true)] (by kernel_rfl)
  · have h := h.2 c3
    have e1 := h
    exact callC_out (Sub.int_eq e1) [kc [] hz0, kf (Eq.refl false), kf hz1, kf hz2, kc [] hz3, kf (Eq.refl false), kc [] hz4, kf (Eq.refl false), ko (Orc.mget (AV.agg [int 2, fnV 120]) true), kp hz5, kf (Eq.refl false), kt (show (OP.pk o != 2) = true from (congrArg Bool.not (beq_eq_false_iff_ne.2 c3))), kt (Eq.refl true), kt (Eq.refl true), kt (Eq.refl true)] (by kernel_rfl)

theorem chk5 (o : OP) (l : List D) (b : Bool) (v : Int) (hcx : o.cx.length ≤ 1000000000) (hw : CallC P G 27 [nilS, dot (o.dv, o.sq)] [] (.ret (.tup [vec l, int 0])) []) (ht : 1 ≤ o.tm) (ht2 : o.tm ≤ 1099511627776) (hv : CallC P G 25 [vec o.cx] [] (.ret (int 0)) []) (hc : CallC P G 26 [vec o.cx, dot (o.dv, o.sq)] [] (.ret (bool false)) []) (hk : CallC P G 121 [opk o 5] [] (.ret (bool b)) []) (hr : CallC P G 32 [opk o 5] [] (.ret (op (restO o 5))) []) (hs : CallC P G 16 [op (restO o 5), op zop] [] (.ret (bool (decide (restO o 5 = zop)))) []) (h : (((OP.pk o = (3 : Int)) → ((((↑(ByteArray.size (OP.pn o)) : Int) > (64 : Int)) → (170 : Int) = (v)) ∧ ((¬(↑(ByteArray.size (OP.pn o)) : Int) > (64 : Int)) → ((((b) = true) → (((restO o 5 = zop) → (0 : Int) = (v)) ∧ ((¬restO o 5 = zop) → (170 : Int) = (v)))) ∧ (((b) = false) → (170 : Int) = (v)))))) ∧ ((¬OP.pk o = (3 : Int)) → (170 : Int) = (v)))) : CallC P G 12 [opk o 5] [] (AOut.ret (int v)) [] := by
  have hz0 := (@hw )
  have hz1 : decide (OP.tm o < (1 : Int)) = false := (decide_eq_false (by omega))
  have hz2 : decide (OP.tm o > (1099511627776 : Int)) = false := (decide_eq_false (by omega))
  have hz3 := (@hv )
  have hz4 := (@hc )
  have hz5 := (@Go.Ops.kg5 )
  have hz7 := (@hk )
  have hz9 := (@hr )
  have hz10 : CallC P G 16 [AV.agg [int (OP.dv (restO o 5)), int (OP.sq (restO o 5)), int (OP.tm (restO o 5)), AV.sl 2 false [], int (OP.pk (restO o 5)), str (OP.pn (restO o 5)), int (OP.kd (restO o 5)), int (OP.f1 (restO o 5)), int (OP.f2 (restO o 5)), int (OP.f3 (restO o 5)), int (OP.t1 (restO o 5)), int (OP.t2 (restO o 5)), int (OP.t3 (restO o 5)), str (OP.ky (restO o 5)), str (OP.vl (restO o 5)), int (OP.n (restO o 5)), Am.bool (OP.on (restO o 5))], AV.agg [int 0, int 0, int 0, nilS, int 0, str { data := #[] }, int 0, int 0, int 0, int 0, int 0, int 0, int 0, str { data := #[] }, str { data := #[] }, int 0, Am.bool false]] [] (AOut.ret (Am.bool (decide (restO o 5 = zop)))) [] := (CallC.args' (@hs ) ⟨Sub.refl _, Sub.aggs ⟨Sub.refl _, Sub.refl _, Sub.refl _, Sub.nil _, Sub.refl _, Sub.refl _, Sub.refl _, Sub.refl _, Sub.refl _, Sub.refl _, Sub.refl _, Sub.refl _, Sub.refl _, Sub.refl _, Sub.refl _, Sub.refl _, Sub.refl _, trivial⟩, trivial⟩)
  by_cases c3 : (OP.pk o = (3 : Int))
  · have h := h.1 c3
    have hz6 : (OP.pk o != 3) = false := (congrArg Bool.not (beq_iff_eq.2 c3))
    by_cases c4 : ((↑(ByteArray.size (OP.pn o)) : Int) > (64 : Int))
    · have h := h.1 c4
      have e1 := h
      exact callC_out (Sub.int_eq e1) [kc [] hz0, kf (Eq.refl false), kf hz1, kf hz2, kc [] hz3, kf (Eq.refl false), kc [] hz4, kf (Eq.refl false), ko (Orc.mget (AV.agg [int 3, fnV 121]) true), kp hz5, kf (Eq.refl false), kf hz6, kt (decide_eq_true c4), kt (Eq.refl true), kt (Eq.refl true)] (by kernel_rfl)
    · have h := h.2 c4
      rcases Bool.eq_false_or_eq_true ((b)) with c5 | c5
      · have h := h.1 c5
        have hz8 : (!b) = false := (congrArg Bool.not (c5))
        by_cases c6 : (restO o 5 = zop)
        · have h := h.1 c6
          have e1 := h
          exact callC_out (Sub.int_eq e1) [kc [] hz0, kf (Eq.refl false), kf hz1, kf hz2, kc [] hz3, kf (Eq.refl false), kc [] hz4, kf (Eq.refl false), ko (Orc.mget (AV.agg [int 3, fnV 121]) true), kp hz5, kf (Eq.refl false), kf hz6, kf (decide_eq_false c4), kc [] hz7, kf hz8, kc [] hz9, kc [] hz10, kf (show (!decide (restO o 5 = zop)) = false from (congrArg Bool.not (decide_eq_true c6)))] (by kernel_rfl)
        · have h := h.2 c6
          have e1 := h
          exact callC_out (Sub.int_eq e1) [kc [] hz0, kf (Eq.refl false), kf hz1, kf hz2, kc [] hz3, kf (Eq.refl false), kc [] hz4, kf (Eq.refl false), ko (Orc.mget (AV.agg [int 3, fnV 121]) true), kp hz5, kf (Eq.refl false), kf hz6, kf (decide_eq_false c4), kc [] hz7, kf hz8, kc [] hz9, kc [] hz10, kt (show (!decide (restO o 5 = zop)) = true from (congrArg Bool.not (decide_eq_false c6)))] (by kernel_rfl)
      · have h := h.2 c5
        have e1 := h
        exact callC_out (Sub.int_eq e1) [kc [] hz0, kf (Eq.refl false), kf hz1, kf hz2, kc [] hz3, kf (Eq.refl false), kc [] hz4, kf (Eq.refl false), ko (Orc.mget (AV.agg [int 3, fnV 121]) true), kp hz5, kf (Eq.refl false), kf hz6, kf (decide_eq_false c4), kc [] hz7, kt (show (!b) = true from (congrArg Bool.not (c5))), kt (Eq.refl true)] (by kernel_rfl)
  · have h := h.2 c3
    have e1 := h
    exact callC_out (Sub.int_eq e1) [kc [] hz0, kf (Eq.refl false), kf hz1, kf hz2, kc [] hz3, kf (Eq.refl false), kc [] hz4, kf (Eq.refl false), ko (Orc.mget (AV.agg [int 3, fnV 121]) true), kp hz5, kf (Eq.refl false), kt (show (OP.pk o != 3) = true from (congrArg Bool.not (beq_eq_false_iff_ne.2 c3))), kt (Eq.refl true), kt (Eq.refl true), kt (Eq.refl true)] (by kernel_rfl)

theorem chk6 (o : OP) (l : List D) (b : Bool) (v : Int) (hcx : o.cx.length ≤ 1000000000) (hw : CallC P G 27 [nilS, dot (o.dv, o.sq)] [] (.ret (.tup [vec l, int 0])) []) (ht : 1 ≤ o.tm) (ht2 : o.tm ≤ 1099511627776) (hv : CallC P G 25 [vec o.cx] [] (.ret (int 0)) []) (hc : CallC P G 26 [vec o.cx, dot (o.dv, o.sq)] [] (.ret (bool false)) []) (hk : CallC P G 122 [opk o 6] [] (.ret (bool b)) []) (hr : CallC P G 32 [opk o 6] [] (.ret (op (restO o 6))) []) (hs : CallC P G 16 [op (restO o 6), op zop] [] (.ret (bool (decide (restO o 6 = zop)))) []) (h : (((OP.pk o = (4 : Int)) → ((((↑(ByteArray.size (OP.pn o)) : Int) > (64 : Int)) → (170 : Int) = (v)) ∧ ((¬(↑(ByteArray.size (OP.pn o)) : Int) > (64 : Int)) → ((((b) = true) → (((restO o 6 = zop) → (0 : Int) = (v)) ∧ ((¬restO o 6 = zop) → (170 : Int) = (v)))) ∧ (((b) = false) → (170 : Int) = (v)))))) ∧ ((¬OP.pk o = (4 : Int)) → (170 : Int) = (v)))) : CallC P G 12 [opk o 6] [] (AOut.ret (int v)) [] := by
  have hz0 := (@hw )
  have hz1 : decide (OP.tm o < (1 : Int)) = false := (decide_eq_false (by omega))
  have hz2 : decide (OP.tm o > (1099511627776 : Int)) = false := (decide_eq_false (by omega))
  have hz3 := (@hv )
  have hz4 := (@hc )
  have hz5 := (@Go.Ops.kg6 )
  have hz7 := (@hk )
  have hz9 := (@hr )
  have hz10 : CallC P G 16 [AV.agg [int (OP.dv (restO o 6)), int (OP.sq (restO o 6)), int (OP.tm (restO o 6)), AV.sl 2 false [], int (OP.pk (restO o 6)), str (OP.pn (restO o 6)), int (OP.kd (restO o 6)), int (OP.f1 (restO o 6)), int (OP.f2 (restO o 6)), int (OP.f3 (restO o 6)), int (OP.t1 (restO o 6)), int (OP.t2 (restO o 6)), int (OP.t3 (restO o 6)), str (OP.ky (restO o 6)), str (OP.vl (restO o 6)), int (OP.n (restO o 6)), Am.bool (OP.on (restO o 6))], AV.agg [int 0, int 0, int 0, nilS, int 0, str { data := #[] }, int 0, int 0, int 0, int 0, int 0, int 0, int 0, str { data := #[] }, str { data := #[] }, int 0, Am.bool false]] [] (AOut.ret (Am.bool (decide (restO o 6 = zop)))) [] := (CallC.args' (@hs ) ⟨Sub.refl _, Sub.aggs ⟨Sub.refl _, Sub.refl _, Sub.refl _, Sub.nil _, Sub.refl _, Sub.refl _, Sub.refl _, Sub.refl _, Sub.refl _, Sub.refl _, Sub.refl _, Sub.refl _, Sub.refl _, Sub.refl _, Sub.refl _, Sub.refl _, Sub.refl _, trivial⟩, trivial⟩)
  by_cases c3 : (OP.pk o = (4 : Int))
  · have h := h.1 c3
    have hz6 : (OP.pk o != 4) = false := (congrArg Bool.not (beq_iff_eq.2 c3))
    by_cases c4 : ((↑(ByteArray.size (OP.pn o)) : Int) > (64 : Int))
    · have h := h.1 c4
      have e1 := h
      exact callC_out (Sub.int_eq e1) [kc [] hz0, kf (Eq.refl false), kf hz1, kf hz2, kc [] hz3, kf (Eq.refl false), kc [] hz4, kf (Eq.refl false), ko (Orc.mget (AV.agg [int 4, fnV 122]) true), kp hz5, kf (Eq.refl false), kf hz6, kt (decide_eq_true c4), kt (Eq.refl true), kt (Eq.refl true)] (by kernel_rfl)
    · have h := h.2 c4
      rcases Bool.eq_false_or_eq_true ((b)) with c5 | c5
      · have h := h.1 c5
        have hz8 : (!b) = false := (congrArg Bool.not (c5))
        by_cases c6 : (restO o 6 = zop)
        · have h := h.1 c6
          have e1 := h
          exact callC_out (Sub.int_eq e1) [kc [] hz0, kf (Eq.refl false), kf hz1, kf hz2, kc [] hz3, kf (Eq.refl false), kc [] hz4, kf (Eq.refl false), ko (Orc.mget (AV.agg [int 4, fnV 122]) true), kp hz5, kf (Eq.refl false), kf hz6, kf (decide_eq_false c4), kc [] hz7, kf hz8, kc [] hz9, kc [] hz10, kf (show (!decide (restO o 6 = zop)) = false from (congrArg Bool.not (decide_eq_true c6)))] (by kernel_rfl)
        · have h := h.2 c6
          have e1 := h
          exact callC_out (Sub.int_eq e1) [kc [] hz0, kf (Eq.refl false), kf hz1, kf hz2, kc [] hz3, kf (Eq.refl false), kc [] hz4, kf (Eq.refl false), ko (Orc.mget (AV.agg [int 4, fnV 122]) true), kp hz5, kf (Eq.refl false), kf hz6, kf (decide_eq_false c4), kc [] hz7, kf hz8, kc [] hz9, kc [] hz10, kt (show (!decide (restO o 6 = zop)) = true from (congrArg Bool.not (decide_eq_false c6)))] (by kernel_rfl)
      · have h := h.2 c5
        have e1 := h
        exact callC_out (Sub.int_eq e1) [kc [] hz0, kf (Eq.refl false), kf hz1, kf hz2, kc [] hz3, kf (Eq.refl false), kc [] hz4, kf (Eq.refl false), ko (Orc.mget (AV.agg [int 4, fnV 122]) true), kp hz5, kf (Eq.refl false), kf hz6, kf (decide_eq_false c4), kc [] hz7, kt (show (!b) = true from (congrArg Bool.not (c5))), kt (Eq.refl true)] (by kernel_rfl)
  · have h := h.2 c3
    have e1 := h
    exact callC_out (Sub.int_eq e1) [kc [] hz0, kf (Eq.refl false), kf hz1, kf hz2, kc [] hz3, kf (Eq.refl false), kc [] hz4, kf (Eq.refl false), ko (Orc.mget (AV.agg [int 4, fnV 122]) true), kp hz5, kf (Eq.refl false), kt (show (OP.pk o != 4) = true from (congrArg Bool.not (beq_eq_false_iff_ne.2 c3))), kt (Eq.refl true), kt (Eq.refl true), kt (Eq.refl true)] (by kernel_rfl)

theorem chk7 (o : OP) (l : List D) (b : Bool) (v : Int) (hcx : o.cx.length ≤ 1000000000) (hw : CallC P G 27 [nilS, dot (o.dv, o.sq)] [] (.ret (.tup [vec l, int 0])) []) (ht : 1 ≤ o.tm) (ht2 : o.tm ≤ 1099511627776) (hv : CallC P G 25 [vec o.cx] [] (.ret (int 0)) []) (hc : CallC P G 26 [vec o.cx, dot (o.dv, o.sq)] [] (.ret (bool false)) []) (hk : CallC P G 123 [opk o 7] [] (.ret (bool b)) []) (hr : CallC P G 32 [opk o 7] [] (.ret (op (restO o 7))) []) (hs : CallC P G 16 [op (restO o 7), op zop] [] (.ret (bool (decide (restO o 7 = zop)))) []) (h : (((OP.pk o = (4 : Int)) → ((((↑(ByteArray.size (OP.pn o)) : Int) > (64 : Int)) → (170 : Int) = (v)) ∧ ((¬(↑(ByteArray.size (OP.pn o)) : Int) > (64 : Int)) → ((((b) = true) → (((restO o 7 = zop) → (0 : Int) = (v)) ∧ ((¬restO o 7 = zop) → (170 : Int) = (v)))) ∧ (((b) = false) → (170 : Int) = (v)))))) ∧ ((¬OP.pk o = (4 : Int)) → (170 : Int) = (v)))) : CallC P G 12 [opk o 7] [] (AOut.ret (int v)) [] := by
  have hz0 := (@hw )
  have hz1 : decide (OP.tm o < (1 : Int)) = false := (decide_eq_false (by omega))
  have hz2 : decide (OP.tm o > (1099511627776 : Int)) = false := (decide_eq_false (by omega))
  have hz3 := (@hv )
  have hz4 := (@hc )
  have hz5 := (@Go.Ops.kg7 )
  have hz7 := (@hk )
  have hz9 := (@hr )
  have hz10 : CallC P G 16 [AV.agg [int (OP.dv (restO o 7)), int (OP.sq (restO o 7)), int (OP.tm (restO o 7)), AV.sl 2 false [], int (OP.pk (restO o 7)), str (OP.pn (restO o 7)), int (OP.kd (restO o 7)), int (OP.f1 (restO o 7)), int (OP.f2 (restO o 7)), int (OP.f3 (restO o 7)), int (OP.t1 (restO o 7)), int (OP.t2 (restO o 7)), int (OP.t3 (restO o 7)), str (OP.ky (restO o 7)), str (OP.vl (restO o 7)), int (OP.n (restO o 7)), Am.bool (OP.on (restO o 7))], AV.agg [int 0, int 0, int 0, nilS, int 0, str { data := #[] }, int 0, int 0, int 0, int 0, int 0, int 0, int 0, str { data := #[] }, str { data := #[] }, int 0, Am.bool false]] [] (AOut.ret (Am.bool (decide (restO o 7 = zop)))) [] := (CallC.args' (@hs ) ⟨Sub.refl _, Sub.aggs ⟨Sub.refl _, Sub.refl _, Sub.refl _, Sub.nil _, Sub.refl _, Sub.refl _, Sub.refl _, Sub.refl _, Sub.refl _, Sub.refl _, Sub.refl _, Sub.refl _, Sub.refl _, Sub.refl _, Sub.refl _, Sub.refl _, Sub.refl _, trivial⟩, trivial⟩)
  by_cases c3 : (OP.pk o = (4 : Int))
  · have h := h.1 c3
    have hz6 : (OP.pk o != 4) = false := (congrArg Bool.not (beq_iff_eq.2 c3))
    by_cases c4 : ((↑(ByteArray.size (OP.pn o)) : Int) > (64 : Int))
    · have h := h.1 c4
      have e1 := h
      exact callC_out (Sub.int_eq e1) [kc [] hz0, kf (Eq.refl false), kf hz1, kf hz2, kc [] hz3, kf (Eq.refl false), kc [] hz4, kf (Eq.refl false), ko (Orc.mget (AV.agg [int 4, fnV 123]) true), kp hz5, kf (Eq.refl false), kf hz6, kt (decide_eq_true c4), kt (Eq.refl true), kt (Eq.refl true)] (by kernel_rfl)
    · have h := h.2 c4
      rcases Bool.eq_false_or_eq_true ((b)) with c5 | c5
      · have h := h.1 c5
        have hz8 : (!b) = false := (congrArg Bool.not (c5))
        by_cases c6 : (restO o 7 = zop)
        · have h := h.1 c6
          have e1 := h
          exact callC_out (Sub.int_eq e1) [kc [] hz0, kf (Eq.refl false), kf hz1, kf hz2, kc [] hz3, kf (Eq.refl false), kc [] hz4, kf (Eq.refl false), ko (Orc.mget (AV.agg [int 4, fnV 123]) true), kp hz5, kf (Eq.refl false), kf hz6, kf (decide_eq_false c4), kc [] hz7, kf hz8, kc [] hz9, kc [] hz10, kf (show (!decide (restO o 7 = zop)) = false from (congrArg Bool.not (decide_eq_true c6)))] (by kernel_rfl)
        · have h := h.2 c6
          have e1 := h
          exact callC_out (Sub.int_eq e1) [kc [] hz0, kf (Eq.refl false), kf hz1, kf hz2, kc [] hz3, kf (Eq.refl false), kc [] hz4, kf (Eq.refl false), ko (Orc.mget (AV.agg [int 4, fnV 123]) true), kp hz5, kf (Eq.refl false), kf hz6, kf (decide_eq_false c4), kc [] hz7, kf hz8, kc [] hz9, kc [] hz10, kt (show (!decide (restO o 7 = zop)) = true from (congrArg Bool.not (decide_eq_false c6)))] (by kernel_rfl)
      · have h := h.2 c5
        have e1 := h
        exact callC_out (Sub.int_eq e1) [kc [] hz0, kf (Eq.refl false), kf hz1, kf hz2, kc [] hz3, kf (Eq.refl false), kc [] hz4, kf (Eq.refl false), ko (Orc.mget (AV.agg [int 4, fnV 123]) true), kp hz5, kf (Eq.refl false), kf hz6, kf (decide_eq_false c4), kc [] hz7, kt (show (!b) = true from (congrArg Bool.not (c5))), kt (Eq.refl true)] (by kernel_rfl)
  · have h := h.2 c3
    have e1 := h
    exact callC_out (Sub.int_eq e1) [kc [] hz0, kf (Eq.refl false), kf hz1, kf hz2, kc [] hz3, kf (Eq.refl false), kc [] hz4, kf (Eq.refl false), ko (Orc.mget (AV.agg [int 4, fnV 123]) true), kp hz5, kf (Eq.refl false), kt (show (OP.pk o != 4) = true from (congrArg Bool.not (beq_eq_false_iff_ne.2 c3))), kt (Eq.refl true), kt (Eq.refl true), kt (Eq.refl true)] (by kernel_rfl)

theorem chk8 (o : OP) (l : List D) (b : Bool) (v : Int) (hcx : o.cx.length ≤ 1000000000) (hw : CallC P G 27 [nilS, dot (o.dv, o.sq)] [] (.ret (.tup [vec l, int 0])) []) (ht : 1 ≤ o.tm) (ht2 : o.tm ≤ 1099511627776) (hv : CallC P G 25 [vec o.cx] [] (.ret (int 0)) []) (hc : CallC P G 26 [vec o.cx, dot (o.dv, o.sq)] [] (.ret (bool false)) []) (hk : CallC P G 124 [opk o 8] [] (.ret (bool b)) []) (hr : CallC P G 32 [opk o 8] [] (.ret (op (restO o 8))) []) (hs : CallC P G 16 [op (restO o 8), op zop] [] (.ret (bool (decide (restO o 8 = zop)))) []) (h : (((OP.pk o = (4 : Int)) → ((((↑(ByteArray.size (OP.pn o)) : Int) > (64 : Int)) → (170 : Int) = (v)) ∧ ((¬(↑(ByteArray.size (OP.pn o)) : Int) > (64 : Int)) → ((((b) = true) → (((restO o 8 = zop) → (0 : Int) = (v)) ∧ ((¬restO o 8 = zop) → (170 : Int) = (v)))) ∧ (((b) = false) → (170 : Int) = (v)))))) ∧ ((¬OP.pk o = (4 : Int)) → (170 : Int) = (v)))) : CallC P G 12 [opk o 8] [] (AOut.ret (int v)) [] := by
  have hz0 := (@hw )
  have hz1 : decide (OP.tm o < (1 : Int)) = false := (decide_eq_false (by omega))
  have hz2 : decide (OP.tm o > (1099511627776 : Int)) = false := (decide_eq_false (by omega))
  have hz3 := (@hv )
  have hz4 := (@hc )
  have hz5 := (@Go.Ops.kg8 )
  have hz7 := (@hk )
  have hz9 := (@hr )
  have hz10 : CallC P G 16 [AV.agg [int (OP.dv (restO o 8)), int (OP.sq (restO o 8)), int (OP.tm (restO o 8)), AV.sl 2 false [], int (OP.pk (restO o 8)), str (OP.pn (restO o 8)), int (OP.kd (restO o 8)), int (OP.f1 (restO o 8)), int (OP.f2 (restO o 8)), int (OP.f3 (restO o 8)), int (OP.t1 (restO o 8)), int (OP.t2 (restO o 8)), int (OP.t3 (restO o 8)), str (OP.ky (restO o 8)), str (OP.vl (restO o 8)), int (OP.n (restO o 8)), Am.bool false], AV.agg [int 0, int 0, int 0, nilS, int 0, str { data := #[] }, int 0, int 0, int 0, int 0, int 0, int 0, int 0, str { data := #[] }, str { data := #[] }, int 0, Am.bool false]] [] (AOut.ret (Am.bool (decide (restO o 8 = zop)))) [] := (CallC.args' (@hs ) ⟨Sub.refl _, Sub.aggs ⟨Sub.refl _, Sub.refl _, Sub.refl _, Sub.nil _, Sub.refl _, Sub.refl _, Sub.refl _, Sub.refl _, Sub.refl _, Sub.refl _, Sub.refl _, Sub.refl _, Sub.refl _, Sub.refl _, Sub.refl _, Sub.refl _, Sub.refl _, trivial⟩, trivial⟩)
  by_cases c3 : (OP.pk o = (4 : Int))
  · have h := h.1 c3
    have hz6 : (OP.pk o != 4) = false := (congrArg Bool.not (beq_iff_eq.2 c3))
    by_cases c4 : ((↑(ByteArray.size (OP.pn o)) : Int) > (64 : Int))
    · have h := h.1 c4
      have e1 := h
      exact callC_out (Sub.int_eq e1) [kc [] hz0, kf (Eq.refl false), kf hz1, kf hz2, kc [] hz3, kf (Eq.refl false), kc [] hz4, kf (Eq.refl false), ko (Orc.mget (AV.agg [int 4, fnV 124]) true), kp hz5, kf (Eq.refl false), kf hz6, kt (decide_eq_true c4), kt (Eq.refl true), kt (Eq.refl true)] (by kernel_rfl)
    · have h := h.2 c4
      rcases Bool.eq_false_or_eq_true ((b)) with c5 | c5
      · have h := h.1 c5
        have hz8 : (!b) = false := (congrArg Bool.not (c5))
        by_cases c6 : (restO o 8 = zop)
        · have h := h.1 c6
          have e1 := h
          exact callC_out (Sub.int_eq e1) [kc [] hz0, kf (Eq.refl false), kf hz1, kf hz2, kc [] hz3, kf (Eq.refl false), kc [] hz4, kf (Eq.refl false), ko (Orc.mget (AV.agg [int 4, fnV 124]) true), kp hz5, kf (Eq.refl false), kf hz6, kf (decide_eq_false c4), kc [] hz7, kf hz8, kc [] hz9, kc [] hz10, kf (show (!decide (restO o 8 = zop)) = false from (congrArg Bool.not (decide_eq_true c6)))] (by kernel_rfl)
        · have h := h.2 c6
          have e1 := h
          exact callC_out (Sub.int_eq e1) [kc [] hz0, kf (Eq.refl false), kf hz1, kf hz2, kc [] hz3, kf (Eq.refl false), kc [] hz4, kf (Eq.refl false), ko (Orc.mget (AV.agg [int 4, fnV 124]) true), kp hz5, kf (Eq.refl false), kf hz6, kf (decide_eq_false c4), kc [] hz7, kf hz8, kc [] hz9, kc [] hz10, kt (show (!decide (restO o 8 = zop)) = true from (congrArg Bool.not (decide_eq_false c6)))] (by kernel_rfl)
      · have h := h.2 c5
        have e1 := h
        exact callC_out (Sub.int_eq e1) [kc [] hz0, kf (Eq.refl false), kf hz1, kf hz2, kc [] hz3, kf (Eq.refl false), kc [] hz4, kf (Eq.refl false), ko (Orc.mget (AV.agg [int 4, fnV 124]) true), kp hz5, kf (Eq.refl false), kf hz6, kf (decide_eq_false c4), kc [] hz7, kt (show (!b) = true from (congrArg Bool.not (c5))), kt (Eq.refl true)] (by kernel_rfl)
  · have h := h.2 c3
    have e1 := h
    exact callC_out (Sub.int_eq e1) [kc [] hz0, kf (Eq.refl false), kf hz1, kf hz2, kc [] hz3, kf (Eq.refl false), kc [] hz4, kf (Eq.refl false), ko (Orc.mget (AV.agg [int 4, fnV 124]) true), kp hz5, kf (Eq.refl false), kt (show (OP.pk o != 4) = true from (congrArg Bool.not (beq_eq_false_iff_ne.2 c3))), kt (Eq.refl true), kt (Eq.refl true), kt (Eq.refl true)] (by kernel_rfl)

end Go.Ops

/- OPS, 4: the reference's Check. -/
namespace Go.Ops
set_option maxRecDepth 100000
set_option linter.unusedSimpArgs false
set_option linter.unusedVariables false
open Go Go.Am Go.Proofs Go.Seat Go.Vec Go.Cdc

end Go.Ops

/- OPS, 5: Check, in both packages. -/
namespace Go.Ops
set_option maxRecDepth 100000
set_option linter.unusedSimpArgs false
set_option linter.unusedVariables false
open Go Go.Am Go.Proofs Go.Seat Go.Vec Go.Cdc

/-- Numbers within what a machine holds, and a context that is not too long. -/
structure Okn (o : OP) : Prop where
  cx : o.cx.length ≤ 1000000000
  kd : -9223372036854775808 ≤ o.kd ∧ o.kd < 9223372036854775808
  f3 : -9223372036854775808 ≤ o.f3 ∧ o.f3 < 9223372036854775808

def stageB (o : OP) : Bool := isDotB (o.dv, o.sq) && decide (o.tm ≥ 1) && decide (o.tm ≤ 1099511627776) && okB o.cx && !coversB o.cx (o.dv, o.sq)
def kindB (o : OP) : Bool := decide (o.pk = partOf o.kd) && decide ((o.pn.size : Int) ≤ 64) && fieldsB o o.kd && decide (restO o o.kd = zop)
def chkB' (o : OP) : Bool := stageB o && decide (1 ≤ o.kd) && decide (o.kd ≤ 8) && kindB o
/-- What Check answers. -/
def chkOE (o : OP) : Int := if chkB' o = true then 0 else 170
theorem dot1 (x : D) : checkE [x] = if isDotB x = true then 0 else 120 := by
  unfold checkE okB
  simp [okN, okAt]
theorem with_nil (o : OP) : ∃ l : List D, CallC P G 27 [nilS, dot (o.dv, o.sq)] [] (.ret (.tup [vec l, int (if isDotB (o.dv, o.sq) = true then 0 else 120)])) [] := by
  have h := with_c [] o.dv o.sq (by simp)
  refine ⟨joinE [] [(o.dv, o.sq)], ?_⟩
  have e : check2E [] [(o.dv, o.sq)] = if isDotB (o.dv, o.sq) = true then 0 else 120 := by
    unfold check2E
    rw [if_pos (by rfl), dot1]
  rw [e] at h
  exact CallC.args' h ⟨Sub.nil 2, Sub.refl _, trivial⟩

theorem kind_c (o : OP) (k : Int) (b : Bool) (hb : b = fieldsB o k) (hk : o.kd = k) (hs : stageB o = true) (h1 : 1 ≤ k) (h8 : k ≤ 8)
    (h : ∀ v, (((o.pk = partOf k → ((((o.pn.size : Int) > 64 → 170 = v) ∧ (¬ (o.pn.size : Int) > 64 → ((b = true → ((restO o k = zop → 0 = v) ∧ (¬ restO o k = zop → 170 = v))) ∧ (b = false → 170 = v)))))) ∧ (¬ o.pk = partOf k → 170 = v))) → CallC P G 12 [opk o k] [] (.ret (int v)) []) :
    CallC P G 12 [op o] [] (.ret (int (chkOE o))) [] := by
  rw [← opk_op o k hk]
  apply h
  subst hk hb
  have e : chkB' o = kindB o := by simp [chkB', hs, h1, h8]
  unfold chkOE
  rw [e]
  unfold kindB
  refine ⟨fun a => ⟨fun b => ?_, fun b => ⟨fun c => ⟨fun d => ?_, fun d => ?_⟩, fun c => ?_⟩⟩, fun a => ?_⟩
  · rw [if_neg]; intro hq; simp only [Bool.and_eq_true, decide_eq_true_eq] at hq; omega
  · rw [if_pos]; simp only [Bool.and_eq_true, decide_eq_true_eq]; exact ⟨⟨⟨a, by omega⟩, c⟩, d⟩
  · rw [if_neg]; intro hq; simp only [Bool.and_eq_true, decide_eq_true_eq] at hq; exact d hq.2
  · rw [if_neg]; intro hq; simp only [Bool.and_eq_true, decide_eq_true_eq] at hq; rw [c] at hq; exact absurd hq.1.2 (by decide)
  · rw [if_neg]; intro hq; simp only [Bool.and_eq_true, decide_eq_true_eq] at hq; exact a hq.1.1.1

theorem restO_cx (o : OP) (k : Int) : (restO o k).cx = [] := by unfold restO; split <;> rfl
theorem rest_same (o : OP) (k : Int) : CallC P G 16 [op (restO o k), op zop] [] (.ret (bool (decide (restO o k = zop)))) [] := same_c _ _ (by rw [restO_cx]; simp)

theorem bad_c (o : OP) (h : chkB' o = false) (hc : CallC P G 12 [op o] [] (.ret (int 170)) []) : CallC P G 12 [op o] [] (.ret (int (chkOE o))) [] := by
  rw [show chkOE o = 170 by unfold chkOE; rw [if_neg (by rw [h]; decide)]]; exact hc
theorem check_c (o : OP) (hn : Okn o) : CallC P G 12 [op o] [] (.ret (int (chkOE o))) [] := by
  obtain ⟨l, hw⟩ := with_nil o
  by_cases hd : isDotB (o.dv, o.sq) = true
  · rw [if_pos hd] at hw
    by_cases t1 : o.tm < 1
    · exact bad_c o (by simp only [chkB', stageB]; simp [show ¬ o.tm ≥ 1 by omega]) (chkB o l hw t1 trivial)
    by_cases t2 : 1099511627776 < o.tm
    · exact bad_c o (by simp only [chkB', stageB]; simp [show ¬ o.tm ≤ 1099511627776 by omega]) (chkC o l hw (by omega) t2 trivial)
    have hv := Vec.check_c o.cx hn.cx
    by_cases hok : okB o.cx = true
    · have e0 : checkE o.cx = 0 := by unfold checkE; rw [if_pos hok]
      rw [e0] at hv
      have hcv := covers_c o.cx o.dv o.sq hn.cx
      cases hcb : coversB o.cx (o.dv, o.sq) with
      | true =>
        rw [hcb] at hcv
        exact bad_c o (by simp only [chkB', stageB]; simp [hcb]) (chkE o l hw (by omega) (by omega) hv hcv trivial)
      | false =>
        rw [hcb] at hcv
        have hs : stageB o = true := by simp only [stageB]; simp [hd, hok, hcb]; omega
        by_cases hk : o.kd < 1 ∨ 8 < o.kd
        · exact bad_c o (by
            unfold chkB'
            have : (decide (1 ≤ o.kd) && decide (o.kd ≤ 8)) = false := by
              rw [Bool.and_eq_false_iff]; simp; omega
            rw [Bool.and_assoc (stageB o), this]; simp) (chkF o l hw (by omega) (by omega) hv hcv (kgn o.kd hn.kd hk) trivial)
        · have hcase : o.kd = 1 ∨ o.kd = 2 ∨ o.kd = 3 ∨ o.kd = 4 ∨ o.kd = 5 ∨ o.kd = 6 ∨ o.kd = 7 ∨ o.kd = 8 := by omega
          rcases hcase with h | h | h | h | h | h | h | h
          · exact kind_c o 1 _ rfl h hs (by decide) (by decide) fun v q => chk1 o l _ v hn.cx hw (by omega) (by omega) hv hcv (k1_c { o with kd := 1 } hn.cx) (rest1_w o trivial) (rest_same o 1) q
          · exact kind_c o 2 _ rfl h hs (by decide) (by decide) fun v q => chk2 o l _ v hn.cx hw (by omega) (by omega) hv hcv (k2_c { o with kd := 2 } hn.cx) (rest2_w o trivial) (rest_same o 2) q
          · exact kind_c o 3 _ rfl h hs (by decide) (by decide) fun v q => chk3 o l _ v hn.cx hw (by omega) (by omega) hv hcv (k3_c { o with kd := 3 }) (rest3_w o trivial) (rest_same o 3) q
          · exact kind_c o 4 _ rfl h hs (by decide) (by decide) fun v q => chk4 o l _ v hn.cx hw (by omega) (by omega) hv hcv (k4_c { o with kd := 4 }) (rest4_w o trivial) (rest_same o 4) q
          · exact kind_c o 5 _ rfl h hs (by decide) (by decide) fun v q => chk5 o l _ v hn.cx hw (by omega) (by omega) hv hcv (k5_c { o with kd := 5 }) (rest5_w o trivial) (rest_same o 5) q
          · exact kind_c o 6 _ rfl h hs (by decide) (by decide) fun v q => chk6 o l _ v hn.cx hw (by omega) (by omega) hv hcv (k6_c { o with kd := 6 } hn.cx) (rest6_w o trivial) (rest_same o 6) q
          · exact kind_c o 7 _ rfl h hs (by decide) (by decide) fun v q => chk7 o l _ v hn.cx hw (by omega) (by omega) hv hcv (k7_c { o with kd := 7 } hn.cx hn.f3) (rest7_w o trivial) (rest_same o 7) q
          · exact kind_c o 8 _ rfl h hs (by decide) (by decide) fun v q => chk8 o l _ v hn.cx hw (by omega) (by omega) hv hcv (k8_c { o with kd := 8 } hn.cx) (rest8_w o trivial) (rest_same o 8) q
    · have e0 : ¬ checkE o.cx = 0 := by unfold checkE; rw [if_neg hok]; decide
      exact bad_c o (by simp only [chkB', stageB]; simp [hok]) (chkD o l _ hw (by omega) (by omega) hv e0 trivial)
  · rw [if_neg hd] at hw
    exact bad_c o (by simp only [chkB', stageB]; simp [hd]) (chkA o l 120 hw (by decide) trivial)

/-! The reference's Check -/
end Go.Ops

/- CODEC, 19: what is written is read back; encodings are different. -/
namespace Go.Cdc
set_option maxRecDepth 100000
set_option linter.unusedSimpArgs false
set_option linter.unusedVariables false
open Go Go.Am Go.Proofs Go.Seat

theorem lstF_comp {p : List UInt8 → Bool × CV × List UInt8} : ∀ (l : List CV) (r : List UInt8), (∀ x ∈ l, ∀ r, p (encB x ++ r) = (true, x, r)) → lstF p l.length (encBL l ++ r) = (true, l, r)
  | [], r, _ => rfl
  | v :: l, r, h => by
    have h1 := h v List.mem_cons_self (encBL l ++ r)
    have ih := lstF_comp l r fun x hx => h x (List.mem_cons_of_mem _ hx)
    rw [encBL_cons, List.append_assoc]
    show lstF p (l.length + 1) _ = _
    simp only [lstF, h1, if_true, ih]
theorem valF_comp (v : CV) : ∀ (d : Nat) (r : List UInt8), wf v = true → Okv v → dp v ≤ d → valF d (encB v ++ r) = (true, v, r) := by
  refine CV.ind (p := fun v => ∀ (d : Nat) (r : List UInt8), wf v = true → Okv v → dp v ≤ d → valF d (encB v ++ r) = (true, v, r)) (fun k n s l ih d r hw hok hd => ?_) v
  cases hok with
  | mk _ _ _ _ hn hs hl hall =>
  have hdeep : ∃ deep p, valF d = valS deep p := by cases d <;> exact ⟨_, _, rfl⟩
  obtain ⟨deep, p, hp⟩ := hdeep
  by_cases h1 : k = 1
  · subst h1
    simp only [wf, if_true, Bool.and_eq_true, decide_eq_true_eq] at hw
    obtain ⟨rfl, hl0⟩ := hw
    obtain rfl := List.eq_nil_of_length_eq_zero hl0
    obtain ⟨k1, k2, k3⟩ := numF_num0 (uns n) (uns_lt hn) r
    have e : encB (.mk 1 n .empty []) ++ r = 1 :: (num (uns n) ++ r) := by simp [encB]
    rw [hp, e, valS_1 (by decide), k1, k2, k3, sgn_uns]
    rfl
  by_cases h2 : k = 2
  · subst h2
    have hw' : n = 0 ∧ l.length = 0 := by simpa [wf] using hw
    obtain ⟨rfl, hl0⟩ := hw'
    obtain rfl := List.eq_nil_of_length_eq_zero hl0
    obtain ⟨k1, k2, k3⟩ := numF_num0 s.size (by omega) (s.data.toList ++ r)
    have e : encB (.mk 2 0 s []) ++ r = 2 :: (num s.size ++ (s.data.toList ++ r)) := by simp [encB]
    have hlen : s.data.toList.length = s.size := rfl
    have ok : lenOk (num s.size ++ (s.data.toList ++ r)) = true := by
      simp only [lenOk, k1, k2, k3, Bool.true_and, decide_eq_true_eq, List.length_append, hlen]; omega
    rw [hp, e, valS_2 (by decide), ok, k2, k3, ← hlen, List.take_left', List.drop_left']
    · rfl
    · rfl
    · rfl
  · have hk : k = 3 := by
      rcases wf_k hw with h | h | h
      · exact absurd h h1
      · exact absurd h h2
      · exact h
    subst hk
    have hw' : (n = 0 ∧ s = .empty) ∧ wfL l = true := by simpa [wf, Bool.and_eq_true] using hw
    obtain ⟨⟨rfl, rfl⟩, hwl⟩ := hw'
    have hdl : dpL l + 1 ≤ d := by simpa [dp] using hd
    obtain ⟨d', rfl⟩ : ∃ d', d = d' + 1 := ⟨d - 1, by omega⟩
    obtain ⟨k1, k2, k3⟩ := numF_num0 l.length (by omega) (encBL l ++ r)
    have e : encB (.mk 3 0 .empty l) ++ r = 3 :: (num l.length ++ (encBL l ++ r)) := by simp [encB]
    have hle := encBL_len l
    have ok : lenOk (num l.length ++ (encBL l ++ r)) = true := by
      simp only [lenOk, k1, k2, k3, Bool.true_and, decide_eq_true_eq, List.length_append]; omega
    show valS true (valF d') _ = _
    rw [e, valS_3 (by decide), if_pos ⟨rfl, ok⟩, k2, k3, lstF_comp l r fun x hx r => ih x hx d' r (wfL_mem hwl x hx) (hall x hx) (by have := dp_mem hx; omega)]
    rfl
theorem dec_enc (v : CV) (hw : wf v = true) (hok : Okv v) (hd : dp v ≤ 16) : decV (encB v) = v ∧ decE (encB v) = 0 := by
  have h := valF_comp v 16 [] hw hok hd
  rw [List.append_nil] at h
  have hb : decB (encB v) = true := by simp [decB, h]
  exact ⟨by simp [decV, hb, h], by simp [decE, hb]⟩
/-- What is read is what was written. -/
theorem dec_sound {l : List UInt8} (hl : l.length ≤ 1000000000) (h : decE l = 0) : wf (decV l) = true ∧ dp (decV l) ≤ 16 ∧ Okv (decV l) ∧ encB (decV l) = l := by
  have hb : decB l = true := by
    cases hq : decB l with
    | true => rfl
    | false => simp [decE, hq] at h
  have hb' := hb
  simp only [decB, Bool.and_eq_true, List.isEmpty_iff] at hb'
  have hg := valF_sound 16 l hl hb'.1
  have e : decV l = (valF 16 l).2.1 := by simp [decV, hb]
  rw [e]
  refine ⟨hg.wf, hg.dp, hg.ok, ?_⟩
  have := hg.eq
  rw [hb'.2, List.append_nil] at this
  exact this.symm
end Go.Cdc

/- OPS, 20: plain law: operations and their values. -/
namespace Go.Ops
set_option maxRecDepth 100000
set_option linter.unusedSimpArgs false
set_option linter.unusedVariables false
open Go Go.Am Go.Proofs Go.Seat Go.Vec Go.Cdc

abbrev I64 (n : Int) : Prop := -9223372036854775808 ≤ n ∧ n < 9223372036854775808
/-- What a machine holds. -/
structure Okp (o : OP) : Prop where
  dv : I64 o.dv
  sq : I64 o.sq
  tm : I64 o.tm
  cx : ∀ d ∈ o.cx, I64 d.1 ∧ I64 d.2
  pk : I64 o.pk
  kd : I64 o.kd
  f1 : I64 o.f1
  f2 : I64 o.f2
  f3 : I64 o.f3
  t1 : I64 o.t1
  t2 : I64 o.t2
  t3 : I64 o.t3
  n : I64 o.n
/-- A short context and short texts. -/
structure Few (B : Nat) (o : OP) : Prop where
  cx : o.cx.length ≤ B
  ky : o.ky.size ≤ B
  vl : o.vl.size ≤ B
  pn : o.pn.size ≤ B

theorem wf_cvI (n : Int) : wf (cvI n) = true := by simp [cvI, wf]
theorem wf_cvT (s : ByteArray) : wf (cvT s) = true := by simp [cvT, wf]
theorem wf_cvL {l : List CV} (h : ∀ x ∈ l, wf x = true) : wf (cvL l) = true := by simp [cvL, wf, wfL_of h]
theorem dp_cvI (n : Int) : dp (cvI n) = 0 := by simp [cvI, dp]
theorem dp_cvT (s : ByteArray) : dp (cvT s) = 0 := by simp [cvT, dp]
theorem dp_cvL {l : List CV} {d : Nat} (h : ∀ x ∈ l, dp x ≤ d) : dp (cvL l) ≤ d + 1 := by
  have := dpL_of h
  simp [cvL, dp]; exact this
theorem ok_cvI {n : Int} (h : I64 n) : Okv (cvI n) := .mk _ _ _ _ h (by decide) (by decide) (fun x hx => by cases hx)
theorem ok_cvT {s : ByteArray} (h : s.size ≤ 9223372036854775807) : Okv (cvT s) := .mk _ _ _ _ (by decide) h (by decide) (fun x hx => by cases hx)
theorem ok_cvL {l : List CV} (h : l.length ≤ 9223372036854775807) (hx : ∀ x ∈ l, Okv x) : Okv (cvL l) := .mk _ _ _ _ (by decide) (by decide) h hx
theorem len_cvI (n : Int) : (encB (cvI n)).length ≤ 11 := by
  have := (num_len (uns n)).1
  simp only [cvI, encB, if_true, List.length_cons]; omega
theorem len_cvT (s : ByteArray) : (encB (cvT s)).length ≤ 11 + s.size := by
  have := (num_len s.size).1
  have e : encB (cvT s) = 2 :: (num s.size ++ s.data.toList) := by simp [cvT, encB]
  rw [e, List.length_cons, List.length_append, bdata_length]; omega
theorem len_cvL (l : List CV) : (encB (cvL l)).length ≤ 11 + (encBL l).length := by
  have := (num_len l.length).1
  have e : encB (cvL l) = 3 :: (num l.length ++ encBL l) := by simp [cvL, encB]
  rw [e, List.length_cons, List.length_append]; omega
theorem len_cvD (l : List D) : (encBL (l.map cvD)).length ≤ 33 * l.length := by
  induction l with
  | nil => simp [encBL]
  | cons d l ih =>
    rw [List.map_cons, encBL_cons, List.length_append, List.length_cons]
    have h1 := len_cvL [cvI d.1, cvI d.2]
    have h2 := len_cvI d.1
    have h3 := len_cvI d.2
    have e : (encBL [cvI d.1, cvI d.2]).length = (encB (cvI d.1)).length + (encB (cvI d.2)).length := by simp [encBL]
    have e2 : encB (cvD d) = encB (cvL [cvI d.1, cvI d.2]) := rfl
    rw [e2]; omega
theorem opV_wf (o : OP) : wf (opV o) = true := by
  refine wf_cvL fun x hx => ?_
  simp only [List.mem_cons, List.not_mem_nil, or_false] at hx
  rcases hx with rfl | rfl | rfl | rfl | rfl | rfl | rfl | rfl | rfl | rfl | rfl | rfl <;> first
    | exact wf_cvI _
    | exact wf_cvT _
    | skip
  · refine wf_cvL fun x hx => ?_
    obtain ⟨d, _, rfl⟩ := List.mem_map.1 hx
    exact wf_cvL fun x hx => by
      simp only [List.mem_cons, List.not_mem_nil, or_false] at hx
      rcases hx with rfl | rfl <;> exact wf_cvI _
  · exact wf_cvL fun x hx => by
      simp only [List.mem_cons, List.not_mem_nil, or_false] at hx
      rcases hx with rfl | rfl
      · exact wf_cvI _
      · exact wf_cvT _
  · exact wf_cvL fun x hx => by
      simp only [List.mem_cons, List.not_mem_nil, or_false] at hx
      rcases hx with rfl | rfl | rfl <;> exact wf_cvI _
  · exact wf_cvL fun x hx => by
      simp only [List.mem_cons, List.not_mem_nil, or_false] at hx
      rcases hx with rfl | rfl | rfl <;> exact wf_cvI _
theorem opV_dp (o : OP) : dp (opV o) ≤ 3 := by
  refine dp_cvL fun x hx => ?_
  simp only [List.mem_cons, List.not_mem_nil, or_false] at hx
  rcases hx with rfl | rfl | rfl | rfl | rfl | rfl | rfl | rfl | rfl | rfl | rfl | rfl <;> first
    | (rw [dp_cvI]; decide)
    | (rw [dp_cvT]; decide)
    | skip
  · refine dp_cvL fun x hx => ?_
    obtain ⟨d, _, rfl⟩ := List.mem_map.1 hx
    exact dp_cvL (d := 0) fun x hx => by
      simp only [List.mem_cons, List.not_mem_nil, or_false] at hx
      rcases hx with rfl | rfl <;> (rw [dp_cvI]; decide)
  · exact Nat.le_trans (dp_cvL (d := 0) fun x hx => by
      simp only [List.mem_cons, List.not_mem_nil, or_false] at hx
      rcases hx with rfl | rfl
      · rw [dp_cvI]; decide
      · rw [dp_cvT]; decide) (by decide)
  · exact Nat.le_trans (dp_cvL (d := 0) fun x hx => by
      simp only [List.mem_cons, List.not_mem_nil, or_false] at hx
      rcases hx with rfl | rfl | rfl <;> (rw [dp_cvI]; decide)) (by decide)
  · exact Nat.le_trans (dp_cvL (d := 0) fun x hx => by
      simp only [List.mem_cons, List.not_mem_nil, or_false] at hx
      rcases hx with rfl | rfl | rfl <;> (rw [dp_cvI]; decide)) (by decide)
theorem opV_ok {o : OP} {B : Nat} (hB : B ≤ 1000000000) (h : Okp o) (f : Few B o) : Okv (opV o) := by
  have s := f.ky; have s2 := f.vl; have s3 := f.pn; have s4 := f.cx
  refine ok_cvL (by simp) fun x hx => ?_
  simp only [List.mem_cons, List.not_mem_nil, or_false] at hx
  rcases hx with rfl | rfl | rfl | rfl | rfl | rfl | rfl | rfl | rfl | rfl | rfl | rfl
  · exact ok_cvI h.dv
  · exact ok_cvI h.sq
  · exact ok_cvI h.tm
  · refine ok_cvL (by rw [List.length_map]; omega) fun x hx => ?_
    obtain ⟨d, hd, rfl⟩ := List.mem_map.1 hx
    exact ok_cvL (by simp) fun x hx => by
      simp only [List.mem_cons, List.not_mem_nil, or_false] at hx
      rcases hx with rfl | rfl
      · exact ok_cvI (h.cx d hd).1
      · exact ok_cvI (h.cx d hd).2
  · exact ok_cvL (by simp) fun x hx => by
      simp only [List.mem_cons, List.not_mem_nil, or_false] at hx
      rcases hx with rfl | rfl
      · exact ok_cvI h.pk
      · exact ok_cvT (by omega)
  · exact ok_cvI h.kd
  · exact ok_cvL (by simp) fun x hx => by
      simp only [List.mem_cons, List.not_mem_nil, or_false] at hx
      rcases hx with rfl | rfl | rfl
      · exact ok_cvI h.f1
      · exact ok_cvI h.f2
      · exact ok_cvI h.f3
  · exact ok_cvL (by simp) fun x hx => by
      simp only [List.mem_cons, List.not_mem_nil, or_false] at hx
      rcases hx with rfl | rfl | rfl
      · exact ok_cvI h.t1
      · exact ok_cvI h.t2
      · exact ok_cvI h.t3
  · exact ok_cvT (by omega)
  · exact ok_cvT (by omega)
  · exact ok_cvI h.n
  · exact ok_cvI (by split <;> decide)
theorem opV_len {o : OP} {B : Nat} (f : Few B o) : (encB (opV o)).length ≤ 36 * B + 1000 := by
  have s := f.ky; have s2 := f.vl; have s3 := f.pn; have s4 := f.cx
  have h0 := len_cvL [cvI o.dv, cvI o.sq, cvI o.tm, ctxV o, cvL [cvI o.pk, cvT o.pn], cvI o.kd, cvL [cvI o.f1, cvI o.f2, cvI o.f3], cvL [cvI o.t1, cvI o.t2, cvI o.t3], cvT o.ky, cvT o.vl, cvI o.n, cvI (if o.on = true then 1 else 0)]
  have a1 := len_cvI o.dv; have a2 := len_cvI o.sq; have a3 := len_cvI o.tm; have a4 := len_cvI o.pk; have a5 := len_cvT o.pn; have a6 := len_cvI o.kd
  have b1 := len_cvI o.f1; have b2 := len_cvI o.f2; have b3 := len_cvI o.f3; have b4 := len_cvI o.t1; have b5 := len_cvI o.t2; have b6 := len_cvI o.t3
  have c1 := len_cvT o.ky; have c2 := len_cvT o.vl; have c3 := len_cvI o.n; have c4 := len_cvI (if o.on = true then 1 else 0)
  have d1 := len_cvL (o.cx.map cvD); have d2 := len_cvD o.cx
  have d3 := len_cvL [cvI o.pk, cvT o.pn]; have d4 := len_cvL [cvI o.f1, cvI o.f2, cvI o.f3]; have d5 := len_cvL [cvI o.t1, cvI o.t2, cvI o.t3]
  have e : encB (opV o) = encB (cvL [cvI o.dv, cvI o.sq, cvI o.tm, ctxV o, cvL [cvI o.pk, cvT o.pn], cvI o.kd, cvL [cvI o.f1, cvI o.f2, cvI o.f3], cvL [cvI o.t1, cvI o.t2, cvI o.t3], cvT o.ky, cvT o.vl, cvI o.n, cvI (if o.on = true then 1 else 0)]) := rfl
  rw [e]
  have e2 : encB (ctxV o) = encB (cvL (o.cx.map cvD)) := rfl
  simp only [encBL, List.length_append, List.length_nil] at h0 d3 d4 d5
  rw [e2] at h0
  have m : 33 * o.cx.length ≤ 33 * B := Nat.mul_le_mul_left 33 s4
  omega
theorem decO_opV (o : OP) : decO (opV o).l = o := by
  have hc : (o.cx.map cvD).map decD = o.cx := by
    rw [List.map_map]
    refine (List.map_congr_left fun d _ => ?_).trans (List.map_id _)
    rfl
  obtain ⟨dv, sq, tm, cx, pk, pn, kd, f1, f2, f3, t1, t2, t3, ky, vl, n, on⟩ := o
  show (⟨dv, sq, tm, (cx.map cvD).map decD, pk, pn, kd, f1, f2, f3, t1, t2, t3, ky, vl, n, (if on = true then (1 : Int) else 0) == 1⟩ : OP) = _
  have h : (cx.map cvD).map decD = cx := hc
  rw [h]
  cases on <;> rfl
end Go.Ops

/- OPS, 11: the reference's Decode. -/
namespace Go.Ops
set_option maxRecDepth 100000
set_option linter.unusedSimpArgs false
set_option linter.unusedVariables false
open Go Go.Am Go.Proofs Go.Seat Go.Vec Go.Cdc

end Go.Ops

/- OPS, 12: the reference's Decode. -/
namespace Go.Ops
set_option maxRecDepth 100000
set_option linter.unusedSimpArgs false
set_option linter.unusedVariables false
open Go Go.Am Go.Proofs Go.Seat Go.Vec Go.Cdc

end Go.Ops

/- OPS, 13: the loop of the reference's Decode. -/
namespace Go.Ops
set_option maxRecDepth 100000
set_option linter.unusedSimpArgs false
set_option linter.unusedVariables false
open Go Go.Am Go.Proofs Go.Seat Go.Vec Go.Cdc

end Go.Ops

/- OPS, 14: the reference's Decode, by cases. -/
namespace Go.Ops
set_option maxRecDepth 100000
set_option linter.unusedSimpArgs false
set_option linter.unusedVariables false
open Go Go.Am Go.Proofs Go.Seat Go.Vec Go.Cdc

end Go.Ops

/- OPS, 15: the reference's Decode, by cases. -/
namespace Go.Ops
set_option maxRecDepth 100000
set_option linter.unusedSimpArgs false
set_option linter.unusedVariables false
open Go Go.Am Go.Proofs Go.Seat Go.Vec Go.Cdc

end Go.Ops

/- OPS, 16: the reference's Decode, by cases. -/
namespace Go.Ops
set_option maxRecDepth 100000
set_option linter.unusedSimpArgs false
set_option linter.unusedVariables false
open Go Go.Am Go.Proofs Go.Seat Go.Vec Go.Cdc

end Go.Ops

/- OPS, 17: the reference's Decode, by cases. -/
namespace Go.Ops
set_option maxRecDepth 100000
set_option linter.unusedSimpArgs false
set_option linter.unusedVariables false
open Go Go.Am Go.Proofs Go.Seat Go.Vec Go.Cdc

end Go.Ops

/- OPS, 21: Encode and Decode, in both packages. -/
namespace Go.Ops
set_option maxRecDepth 100000
set_option linter.unusedSimpArgs false
set_option linter.unusedVariables false
open Go Go.Am Go.Proofs Go.Seat Go.Vec Go.Cdc

theorem Okp.okn {o : OP} {B : Nat} (hB : B ≤ 1000000000) (h : Okp o) (f : Few B o) : Okn o := ⟨by have := f.cx; omega, h.kd, h.f3⟩
/-- What Encode answers. -/
def encO (o : OP) : List UInt8 := if chkOE o = 0 then encB (opV o) else []
theorem enc_c (o : OP) {B : Nat} (hB : B ≤ 200000) (h : Okp o) (f : Few B o) : CallC P G 18 [op o] [] (.ret (.tup [byt (encO o), int (chkOE o)])) [] := by
  have hc := Ops.check_c o (h.okn (by omega) f)
  have hl := f.cx
  by_cases h0 : chkOE o = 0
  · rw [h0] at hc
    have he := encode_ok (opV o) (opV_ok (by omega) h f) (by have := opV_dp o; omega) (opV_wf o) (by have := opV_len f; omega)
    rw [encO, if_pos h0, h0]
    exact enc_ok o _ 0 (by omega) hc he
  · rw [encO, if_neg h0]
    exact enc_x o _ h0 hc trivial
/-! What is read -/
/-- A part of what is read. -/
def Gd (N : Nat) (x : CV) : Prop := (wf x = true ∧ Okv x ∧ (encB x).length ≤ N) ∨ x = default
theorem encB_mem : ∀ {l : List CV} {x : CV}, x ∈ l → (encB x).length ≤ (encBL l).length
  | v :: l, x, h => by
    rw [encBL_cons, List.length_append]
    rcases List.mem_cons.1 h with rfl | h
    · omega
    · have := encB_mem h; omega
theorem Gd.parts {N : Nat} {x : CV} (h : Gd N x) : x.l.length ≤ N ∧ x.s.size ≤ N ∧ I64 x.n ∧ ∀ y ∈ x.l, Gd N y := by
  rcases h with ⟨h1, h2, h3⟩ | rfl
  · cases h2 with
    | mk k n s l hn hs hl hall =>
    rcases wf_k h1 with q | q | q <;> have q : k = _ := q <;> subst q
    · have hw' : s = .empty ∧ l.length = 0 := by simpa [wf] using h1
      obtain ⟨rfl, hl0⟩ := hw'
      obtain rfl := List.eq_nil_of_length_eq_zero hl0
      exact ⟨Nat.zero_le _, Nat.zero_le _, hn, fun y hy => by cases hy⟩
    · have hw' : n = 0 ∧ l.length = 0 := by simpa [wf] using h1
      obtain ⟨rfl, hl0⟩ := hw'
      obtain rfl := List.eq_nil_of_length_eq_zero hl0
      have e : encB (.mk 2 0 s []) = 2 :: (num s.size ++ s.data.toList) := by simp [encB]
      rw [e, List.length_cons, List.length_append, bdata_length] at h3
      exact ⟨Nat.zero_le _, show s.size ≤ N by omega, hn, fun y hy => by cases hy⟩
    · have hw' : (n = 0 ∧ s = .empty) ∧ wfL l = true := by simpa [wf, Bool.and_eq_true] using h1
      obtain ⟨⟨rfl, rfl⟩, hwl⟩ := hw'
      have e : encB (.mk 3 0 .empty l) = 3 :: (num l.length ++ encBL l) := by simp [encB]
      rw [e, List.length_cons, List.length_append] at h3
      have hle := encBL_len l
      exact ⟨show l.length ≤ N by omega, Nat.zero_le _, hn, fun y hy => .inl ⟨wfL_mem hwl y hy, hall y hy, by have := encB_mem (show y ∈ l from hy); omega⟩⟩
  · exact ⟨Nat.zero_le _, Nat.zero_le _, by show I64 0; decide, fun y hy => by cases hy⟩
theorem at_mem (l : List CV) (i : Nat) : at_ l i ∈ l ∨ at_ l i = default := by
  unfold at_
  rcases Nat.lt_or_ge i l.length with h | h
  · rw [List.drop_eq_getElem_cons h]
    exact .inl (List.getElem_mem h)
  · rw [List.drop_of_length_le h]
    exact .inr rfl
theorem Gd.at {N : Nat} {x : CV} (h : Gd N x) (i : Nat) : Gd N (at_ x.l i) := by
  rcases at_mem x.l i with q | q
  · exact h.parts.2.2.2 _ q
  · exact .inr q
theorem decO_okp {N : Nat} {v : CV} (h : Gd N v) : Okp (decO v.l) where
  dv := (h.at 0).parts.2.2.1
  sq := (h.at 1).parts.2.2.1
  tm := (h.at 2).parts.2.2.1
  cx := fun d hd => by
    obtain ⟨c, hc, rfl⟩ := List.mem_map.1 hd
    have g := (h.at 3).parts.2.2.2 c hc
    exact ⟨(g.at 0).parts.2.2.1, (g.at 1).parts.2.2.1⟩
  pk := ((h.at 4).at 0).parts.2.2.1
  kd := (h.at 5).parts.2.2.1
  f1 := ((h.at 6).at 0).parts.2.2.1
  f2 := ((h.at 6).at 1).parts.2.2.1
  f3 := ((h.at 6).at 2).parts.2.2.1
  t1 := ((h.at 7).at 0).parts.2.2.1
  t2 := ((h.at 7).at 1).parts.2.2.1
  t3 := ((h.at 7).at 2).parts.2.2.1
  n := (h.at 10).parts.2.2.1
theorem decO_few {N : Nat} {v : CV} (h : Gd N v) : Few N (decO v.l) where
  cx := by
    have := (h.at 3).parts.1
    show ((at_ v.l 3).l.map decD).length ≤ N
    rw [List.length_map]; exact this
  ky := (h.at 8).parts.2.1
  vl := (h.at 9).parts.2.1
  pn := ((h.at 4).at 1).parts.2.1
/-- What Decode answers. -/
def decOp (b : List UInt8) : OP × Int := if decE b = 0 then (if chkOE (decO (decV b).l) = 0 ∧ b = encB (opV (decO (decV b).l)) then (decO (decV b).l, 0) else (zop, 170)) else (zop, decE b)
theorem gd_dec {b : List UInt8} (hb : b.length ≤ 1000000000) (h : decE b = 0) : Gd b.length (decV b) := by
  obtain ⟨h1, _, h3, h4⟩ := dec_sound hb h
  exact .inl ⟨h1, h3, by rw [h4]; exact Nat.le_refl _⟩
theorem dec_cc (b : List UInt8) (hb : b.length ≤ 200000) : CallC P G 20 [byt b] [] (.ret (.tup [op (decOp b).1, int (decOp b).2])) [] := by
  have hd := decode_c b (by omega)
  by_cases h0 : decE b = 0
  · rw [h0] at hd
    have g := gd_dec (by omega) h0
    have hE := enc_c (decO (decV b).l) hb (decO_okp g) (decO_few g)
    have hN : ∀ {x : CV}, Gd b.length x → x.l.length ≤ 1000000000 := fun h => by have := h.parts.1; omega
    have := dec_c b (decV b) _ _ (hN g) (fun k => hN (g.at k)) (fun k => hN ((g.at 3).at k)) hd hE
    have e : decR b (decV b) (chkOE (decO (decV b).l)) (encO (decO (decV b).l)) = decOp b := by
      unfold decR decOp
      rw [if_pos h0]
      by_cases h1 : chkOE (decO (decV b).l) = 0
      · simp only [encO, h1, if_true, true_and]
      · simp [h1]
    rw [e] at this
    exact this
  · have := dec_x b _ _ h0 hd trivial
    have e : decOp b = (zop, decE b) := by unfold decOp; rw [if_neg h0]
    rw [e]
    exact this
end Go.Ops

/- OPS, 22: the reference's Decode answers as the program's. -/
namespace Go.Ops
set_option maxRecDepth 100000
set_option linter.unusedSimpArgs false
set_option linter.unusedVariables false
open Go Go.Am Go.Proofs Go.Seat Go.Vec Go.Cdc

end Go.Ops

/- OPS, 23: the statements' small functions; Few. -/
namespace Go.Ops
set_option maxRecDepth 100000
set_option linter.unusedSimpArgs false
set_option linter.unusedVariables false
open Go Go.Am Go.Proofs Go.Seat Go.Vec Go.Cdc

def fewO (o : OP) : Bool := decide ((o.cx.length : Int) ≤ 600) && decide ((o.ky.size : Int) + o.vl.size + o.pn.size ≤ 20000)

theorem few_w (o : OP) (h1 : o.ky.size ≤ 1000000000000000) (h2 : o.vl.size ≤ 1000000000000000) (h3 : o.pn.size ≤ 1000000000000000) (b : Bool) (h : ((((↑(List.length (encs (OP.cx o))) : Int) ≤ (600 : Int)) → (decide ((↑(ByteArray.size (OP.ky o) + ByteArray.size (OP.vl o) + ByteArray.size (OP.pn o)) : Int) ≤ (20000 : Int))) = (b)) ∧ ((¬(↑(List.length (encs (OP.cx o))) : Int) ≤ (600 : Int)) → (false) = (b)))) : CallC P G 11 [op o] [] (AOut.ret (Am.bool b)) [] := by
  by_cases c1 : ((↑(List.length (encs (OP.cx o))) : Int) ≤ (600 : Int))
  · have h := h.1 c1
    have e1 := h
    exact callC_out (Sub.bool_eq e1) [kt (decide_eq_true c1), kv 14 (show Am.Sub (int (IntKind.wrap IntKind.i64 ((↑(ByteArray.size (OP.ky o)) : Int) + (↑(ByteArray.size (OP.vl o)) : Int)))) (int (↑(ByteArray.size (OP.ky o) + ByteArray.size (OP.vl o)) : Int)) from (Sub.of_wrap (by omega) (by omega) (by omega))), kv 19 (show Am.Sub (int (IntKind.wrap IntKind.i64 ((↑(ByteArray.size (OP.ky o) + ByteArray.size (OP.vl o)) : Int) + (↑(ByteArray.size (OP.pn o)) : Int)))) (int (↑(ByteArray.size (OP.ky o) + ByteArray.size (OP.vl o) + ByteArray.size (OP.pn o)) : Int)) from (Sub.of_wrap (by omega) (by omega) (by omega)))] (by kernel_rfl)
  · have h := h.2 c1
    have e1 := h
    exact callC_out (Sub.bool_eq e1) [kf (decide_eq_false c1)] (by kernel_rfl)

theorem lnum_w (n : Int) (h : True) : CallC P G 29 [int n] [] (AOut.ret (vmk 1 n ByteArray.empty [])) [] := by
  have _ := h
  exact CallC.out ((show CallC P G 29 [int n] [] (AOut.ret (AV.agg [int 1, int n, str (ByteArray.mk #[]), nilS])) [] from callC_of [] (by kernel_rfl))) (Sub.aggs ⟨Sub.refl _, Sub.refl _, Sub.refl _, Sub.nil _, trivial⟩)

theorem ltext_w (s : ByteArray) (h : True) : CallC P G 31 [str s] [] (AOut.ret (vmk 2 0 s [])) [] := by
  have _ := h
  exact CallC.out ((show CallC P G 31 [str s] [] (AOut.ret (AV.agg [int 2, int 0, str s, nilS])) [] from callC_of [] (by kernel_rfl))) (Sub.aggs ⟨Sub.refl _, Sub.refl _, Sub.refl _, Sub.nil _, trivial⟩)

theorem llist_w (t : Bool) (xs : List (List AV)) (h : True) : CallC P G 28 [AV.sl 4 t xs] [] (AOut.ret (AV.agg [int 3, int 0, str ByteArray.empty, AV.sl 4 false xs])) [] := by
  have _ := h
  exact CallC.out ((show CallC P G 28 [AV.sl 4 t xs] [] (AOut.ret (AV.agg [int 3, int 0, str (ByteArray.mk #[]), AV.sl 4 t xs])) [] from callC_of [] (by kernel_rfl))) (Sub.aggs ⟨Sub.refl _, Sub.refl _, Sub.refl _, (Sub.loose _ _ _), trivial⟩)

theorem llist_0  (h : True) : CallC P G 28 [nilS] [] (AOut.ret (vmk 3 0 ByteArray.empty [])) [] := by
  have _ := h
  exact CallC.out ((show CallC P G 28 [nilS] [] (AOut.ret (AV.agg [int 3, int 0, str (ByteArray.mk #[]), nilS])) [] from callC_of [] (by kernel_rfl))) (Sub.aggs ⟨Sub.refl _, Sub.refl _, Sub.refl _, Sub.nil _, trivial⟩)

def Sz (o : OP) : Prop := o.ky.size ≤ 1000000000000000 ∧ o.vl.size ≤ 1000000000000000 ∧ o.pn.size ≤ 1000000000000000
theorem few_c (o : OP) (h : Sz o) : CallC P G 11 [op o] [] (.ret (bool (fewO o))) [] := by
  refine few_w o h.1 h.2.1 h.2.2 _ ⟨fun h1 => ?_, fun h1 => ?_⟩
  · rw [encs_length] at h1
    simp only [fewO, h1, decide_true, Bool.true_and, Int.natCast_add]
  · rw [encs_length] at h1
    simp only [fewO, h1, decide_false, Bool.false_and]
theorem lnum_c (n : Int) : CallC P G 29 [int n] [] (.ret (vmk 1 n .empty [])) [] := lnum_w n trivial
theorem ltext_c (s : ByteArray) : CallC P G 31 [str s] [] (.ret (vmk 2 0 s [])) [] := ltext_w s trivial
theorem llist_c (t : Bool) (xs : List (List AV)) : CallC P G 28 [.sl 4 t xs] [] (.ret (.agg [int 3, int 0, str .empty, .sl 4 false xs])) [] := llist_w t xs trivial
theorem llist0_c : CallC P G 28 [nilS] [] (.ret (vmk 3 0 .empty [])) [] := llist_0 trivial

end Go.Ops

/- OPS, 24: the statements' examples. -/
namespace Go.Ops
set_option maxRecDepth 100000
set_option linter.unusedSimpArgs false
set_option linter.unusedVariables false
open Go Go.Am Go.Proofs Go.Seat Go.Vec Go.Cdc

def exO (t : Int) : OP := ⟨1, 1, t, [], 3, ⟨#[99]⟩, 5, 0, 0, 0, 0, 0, 0, .empty, .empty, 5, false⟩
def exU : OP := ⟨1, 1, 1, [], 1, .empty, 2, 2, 1, 0, 0, 0, 0, .empty, .empty, 0, false⟩

theorem sane_w (b : List UInt8) (hE : CallC P G 18 [op (exO 1)] [] (.ret (.tup [byt b, int 0])) []) (hF : CallC P G 30 [val (opV (exO 1))] [] (.ret (.tup [byt b, int 0])) []) (hD : CallC P G 20 [byt b] [] (.ret (.tup [op (exO 1), int 0])) []) (h0 : CallC P G 20 [byt []] [] (.ret (.tup [op zop, int 10])) []) (hI : CallC P G 22 [byt []] [] (.ret (.tup [val default, int 10])) []) (hS : CallC P G 16 [op (exO 1), op (exO 1)] [] (.ret (bool true)) []) (hC0 : CallC P G 12 [op zop] [] (.ret (int 170)) []) (hC1 : CallC P G 12 [op (exO 1)] [] (.ret (int 0)) []) (hM0 : CallC P G 14 [op (exO 1), op (exO 1)] [] (.ret (int 0)) []) (hM1 : CallC P G 14 [op (exO 1), op (exO 2)] [] (.ret (int (-1))) []) (hM2 : CallC P G 14 [op (exO 2), op (exO 1)] [] (.ret (int 1)) []) (hC2 : CallC P G 12 [op exU] [] (.ret (int 170)) []) (hS2 : CallC P G 16 [op (exO 1), op (exO 2)] [] (.ret (bool false)) []) (hb : 0 < b.length) (hb2 : b.length ≤ 1000) (hbb : (ByteArray.toList ⟨b.toArray⟩ == ByteArray.toList ⟨b.toArray⟩) = true) (h : True) : CallC P G 10 [] [] (AOut.ret (Am.bool true)) [] := by
  have hz1 := (@Go.Ops.lnum_c (0))
  have hz3 := (@Go.Ops.lnum_c (1))
  have hz8 := (@Go.Ops.lnum_c (5))
  have hz9 := (@Go.Ops.ltext_c (ByteArray.mk #[]))
  have hz17 : bys b = List.map (fun (c : UInt8) => [AV.lit (Value.int IntKind.u8 (↑(UInt8.toNat c) : Int))]) (Array.toList (Array.mk b)) := (rfl)
  have _ := h
  exact callC_of [kc [] (show CallC P G 18 [AV.agg [int 1, int 1, int 1, nilS, int 3, str (ByteArray.mk #[99]), int 5, int 0, int 0, int 0, int 0, int 0, int 0, str (ByteArray.mk #[]), str (ByteArray.mk #[]), int 5, Am.bool false]] [] (AOut.ret (AV.tup [AV.sl 1 false (bys b), int 0])) [] from (CallC.args' (@hE ) ⟨Sub.aggs ⟨Sub.refl _, Sub.refl _, Sub.refl _, Sub.nil _, Sub.refl _, Sub.refl _, Sub.refl _, Sub.refl _, Sub.refl _, Sub.refl _, Sub.refl _, Sub.refl _, Sub.refl _, Sub.refl _, Sub.refl _, Sub.refl _, Sub.refl _, trivial⟩, trivial⟩)), kc [] hz1, kc [] hz1, kc [] hz1, kc [] (@Go.Ops.llist_c (true) ([[int 1, int 0, str ByteArray.empty, AV.sl 4 false []], [int 1, int 0, str ByteArray.empty, AV.sl 4 false []], [int 1, int 0, str ByteArray.empty, AV.sl 4 false []]])), kc [] hz3, kc [] hz3, kc [] hz3, kc [] (@Go.Ops.llist0_c ), kc [] (@Go.Ops.lnum_c (3)), kc [] (@Go.Ops.ltext_c (ByteArray.mk #[99])), kc [] (@Go.Ops.llist_c (true) ([[int 1, int 3, str ByteArray.empty, AV.sl 4 false []], [int 2, int 0, str (ByteArray.mk #[99]), AV.sl 4 false []]])), kc [] hz8, kc [] hz9, kc [] hz9, kc [] hz8, kc [] hz1, kc [] (@Go.Ops.llist_c (true) ([[int 1, int 1, str ByteArray.empty, AV.sl 4 false []], [int 1, int 1, str ByteArray.empty, AV.sl 4 false []], [int 1, int 1, str ByteArray.empty, AV.sl 4 false []], [int 3, int 0, str ByteArray.empty, AV.sl 4 false []], [int 3, int 0, str ByteArray.empty, AV.sl 4 false [[int 1, int 3, str ByteArray.empty, AV.sl 4 false []], [int 2, int 0, str (ByteArray.mk #[99]), AV.sl 4 false []]]], [int 1, int 5, str ByteArray.empty, AV.sl 4 false []], [int 3, int 0, str ByteArray.empty, AV.sl 4 false [[int 1, int 0, str ByteArray.empty, AV.sl 4 false []], [int 1, int 0, str ByteArray.empty, AV.sl 4 false []], [int 1, int 0, str ByteArray.empty, AV.sl 4 false []]]], [int 3, int 0, str ByteArray.empty, AV.sl 4 false [[int 1, int 0, str ByteArray.empty, AV.sl 4 false []], [int 1, int 0, str ByteArray.empty, AV.sl 4 false []], [int 1, int 0, str ByteArray.empty, AV.sl 4 false []]]], [int 2, int 0, str (ByteArray.mk #[]), AV.sl 4 false []], [int 2, int 0, str (ByteArray.mk #[]), AV.sl 4 false []], [int 1, int 5, str ByteArray.empty, AV.sl 4 false []], [int 1, int 0, str ByteArray.empty, AV.sl 4 false []]])), kc [] (@hF ), kc [] (@hD ), kc [] (show CallC P G 20 [nilS] [] (AOut.ret (AV.tup [AV.agg [int 0, int 0, int 0, AV.sl 2 false [], int 0, str (OP.pn zop), int 0, int 0, int 0, int 0, int 0, int 0, int 0, str (OP.ky zop), str (OP.vl zop), int 0, Am.bool false], int 10])) [] from (CallC.args' (@h0 ) ⟨Sub.nil _, trivial⟩)), kc [] (show CallC P G 22 [nilS] [] (AOut.ret (AV.tup [AV.agg [int 0, int 0, str (CV.s default), AV.sl 4 false []], int 10])) [] from (CallC.args' (@hI ) ⟨Sub.nil _, trivial⟩)), kt (Eq.refl true), kt (Eq.refl true), kv 77 (show Am.Sub (int (↑(List.length (bys b)) : Int)) (int (↑(List.length b) : Int)) from (Sub.of_eq (by simp only [Go.Cdc.bys_length]))), kt (show decide ((↑(List.length b) : Int) > (0 : Int)) = true from (decide_eq_true (by omega))), ko (Orc.bytes (ByteArray.mk (List.toArray b))), ko (Orc.bytes (ByteArray.mk (List.toArray b))), kp hz17, kp hz17, kt hbb, kt (Eq.refl true), kc [] (show CallC P G 16 [AV.agg [int 1, int 1, int 1, AV.sl 2 false [], int 3, str (OP.pn (exO 1)), int 5, int 0, int 0, int 0, int 0, int 0, int 0, str (OP.ky (exO 1)), str (OP.vl (exO 1)), int 5, Am.bool false], AV.agg [int 1, int 1, int 1, nilS, int 3, str (ByteArray.mk #[99]), int 5, int 0, int 0, int 0, int 0, int 0, int 0, str (ByteArray.mk #[]), str (ByteArray.mk #[]), int 5, Am.bool false]] [] (AOut.ret (Am.bool true)) [] from (CallC.args' (@hS ) ⟨Sub.refl _, Sub.aggs ⟨Sub.refl _, Sub.refl _, Sub.refl _, Sub.nil _, Sub.refl _, Sub.refl _, Sub.refl _, Sub.refl _, Sub.refl _, Sub.refl _, Sub.refl _, Sub.refl _, Sub.refl _, Sub.refl _, Sub.refl _, Sub.refl _, Sub.refl _, trivial⟩, trivial⟩)), kt (Eq.refl true), kt (Eq.refl true), kt (Eq.refl true), kc [] (show CallC P G 12 [AV.agg [int 0, int 0, int 0, nilS, int 0, str (ByteArray.mk #[]), int 0, int 0, int 0, int 0, int 0, int 0, int 0, str (ByteArray.mk #[]), str (ByteArray.mk #[]), int 0, Am.bool false]] [] (AOut.ret (int 170)) [] from (CallC.args' (@hC0 ) ⟨Sub.aggs ⟨Sub.refl _, Sub.refl _, Sub.refl _, Sub.nil _, Sub.refl _, Sub.refl _, Sub.refl _, Sub.refl _, Sub.refl _, Sub.refl _, Sub.refl _, Sub.refl _, Sub.refl _, Sub.refl _, Sub.refl _, Sub.refl _, Sub.refl _, trivial⟩, trivial⟩)), kt (Eq.refl true), kc [] (show CallC P G 12 [AV.agg [int 1, int 1, int 1, nilS, int 3, str (ByteArray.mk #[99]), int 5, int 0, int 0, int 0, int 0, int 0, int 0, str (ByteArray.mk #[]), str (ByteArray.mk #[]), int 5, Am.bool false]] [] (AOut.ret (int 0)) [] from (CallC.args' (@hC1 ) ⟨Sub.aggs ⟨Sub.refl _, Sub.refl _, Sub.refl _, Sub.nil _, Sub.refl _, Sub.refl _, Sub.refl _, Sub.refl _, Sub.refl _, Sub.refl _, Sub.refl _, Sub.refl _, Sub.refl _, Sub.refl _, Sub.refl _, Sub.refl _, Sub.refl _, trivial⟩, trivial⟩)), kt (Eq.refl true), kc [] (show CallC P G 14 [AV.agg [int 1, int 1, int 1, nilS, int 3, str (ByteArray.mk #[99]), int 5, int 0, int 0, int 0, int 0, int 0, int 0, str (ByteArray.mk #[]), str (ByteArray.mk #[]), int 5, Am.bool false], AV.agg [int 1, int 1, int 1, nilS, int 3, str (ByteArray.mk #[99]), int 5, int 0, int 0, int 0, int 0, int 0, int 0, str (ByteArray.mk #[]), str (ByteArray.mk #[]), int 5, Am.bool false]] [] (AOut.ret (int 0)) [] from (CallC.args' (@hM0 ) ⟨Sub.aggs ⟨Sub.refl _, Sub.refl _, Sub.refl _, Sub.nil _, Sub.refl _, Sub.refl _, Sub.refl _, Sub.refl _, Sub.refl _, Sub.refl _, Sub.refl _, Sub.refl _, Sub.refl _, Sub.refl _, Sub.refl _, Sub.refl _, Sub.refl _, trivial⟩, Sub.aggs ⟨Sub.refl _, Sub.refl _, Sub.refl _, Sub.nil _, Sub.refl _, Sub.refl _, Sub.refl _, Sub.refl _, Sub.refl _, Sub.refl _, Sub.refl _, Sub.refl _, Sub.refl _, Sub.refl _, Sub.refl _, Sub.refl _, Sub.refl _, trivial⟩, trivial⟩)), kt (Eq.refl true), kc [] (show CallC P G 14 [AV.agg [int 1, int 1, int 1, nilS, int 3, str (ByteArray.mk #[99]), int 5, int 0, int 0, int 0, int 0, int 0, int 0, str (ByteArray.mk #[]), str (ByteArray.mk #[]), int 5, Am.bool false], AV.agg [int 1, int 1, int 2, nilS, int 3, str (ByteArray.mk #[99]), int 5, int 0, int 0, int 0, int 0, int 0, int 0, str (ByteArray.mk #[]), str (ByteArray.mk #[]), int 5, Am.bool false]] [] (AOut.ret (int (-1))) [] from (CallC.args' (@hM1 ) ⟨Sub.aggs ⟨Sub.refl _, Sub.refl _, Sub.refl _, Sub.nil _, Sub.refl _, Sub.refl _, Sub.refl _, Sub.refl _, Sub.refl _, Sub.refl _, Sub.refl _, Sub.refl _, Sub.refl _, Sub.refl _, Sub.refl _, Sub.refl _, Sub.refl _, trivial⟩, Sub.aggs ⟨Sub.refl _, Sub.refl _, Sub.refl _, Sub.nil _, Sub.refl _, Sub.refl _, Sub.refl _, Sub.refl _, Sub.refl _, Sub.refl _, Sub.refl _, Sub.refl _, Sub.refl _, Sub.refl _, Sub.refl _, Sub.refl _, Sub.refl _, trivial⟩, trivial⟩)), kt (Eq.refl true), kc [] (show CallC P G 14 [AV.agg [int 1, int 1, int 2, nilS, int 3, str (ByteArray.mk #[99]), int 5, int 0, int 0, int 0, int 0, int 0, int 0, str (ByteArray.mk #[]), str (ByteArray.mk #[]), int 5, Am.bool false], AV.agg [int 1, int 1, int 1, nilS, int 3, str (ByteArray.mk #[99]), int 5, int 0, int 0, int 0, int 0, int 0, int 0, str (ByteArray.mk #[]), str (ByteArray.mk #[]), int 5, Am.bool false]] [] (AOut.ret (int 1)) [] from (CallC.args' (@hM2 ) ⟨Sub.aggs ⟨Sub.refl _, Sub.refl _, Sub.refl _, Sub.nil _, Sub.refl _, Sub.refl _, Sub.refl _, Sub.refl _, Sub.refl _, Sub.refl _, Sub.refl _, Sub.refl _, Sub.refl _, Sub.refl _, Sub.refl _, Sub.refl _, Sub.refl _, trivial⟩, Sub.aggs ⟨Sub.refl _, Sub.refl _, Sub.refl _, Sub.nil _, Sub.refl _, Sub.refl _, Sub.refl _, Sub.refl _, Sub.refl _, Sub.refl _, Sub.refl _, Sub.refl _, Sub.refl _, Sub.refl _, Sub.refl _, Sub.refl _, Sub.refl _, trivial⟩, trivial⟩)), kt (Eq.refl true), kc [] (show CallC P G 12 [AV.agg [int 1, int 1, int 1, nilS, int 1, str (ByteArray.mk #[]), int 2, int 2, int 1, int 0, int 0, int 0, int 0, str (ByteArray.mk #[]), str (ByteArray.mk #[]), int 0, Am.bool false]] [] (AOut.ret (int 170)) [] from (CallC.args' (@hC2 ) ⟨Sub.aggs ⟨Sub.refl _, Sub.refl _, Sub.refl _, Sub.nil _, Sub.refl _, Sub.refl _, Sub.refl _, Sub.refl _, Sub.refl _, Sub.refl _, Sub.refl _, Sub.refl _, Sub.refl _, Sub.refl _, Sub.refl _, Sub.refl _, Sub.refl _, trivial⟩, trivial⟩)), kt (Eq.refl true), kc [] (show CallC P G 16 [AV.agg [int 1, int 1, int 1, nilS, int 3, str (ByteArray.mk #[99]), int 5, int 0, int 0, int 0, int 0, int 0, int 0, str (ByteArray.mk #[]), str (ByteArray.mk #[]), int 5, Am.bool false], AV.agg [int 1, int 1, int 2, nilS, int 3, str (ByteArray.mk #[99]), int 5, int 0, int 0, int 0, int 0, int 0, int 0, str (ByteArray.mk #[]), str (ByteArray.mk #[]), int 5, Am.bool false]] [] (AOut.ret (Am.bool false)) [] from (CallC.args' (@hS2 ) ⟨Sub.aggs ⟨Sub.refl _, Sub.refl _, Sub.refl _, Sub.nil _, Sub.refl _, Sub.refl _, Sub.refl _, Sub.refl _, Sub.refl _, Sub.refl _, Sub.refl _, Sub.refl _, Sub.refl _, Sub.refl _, Sub.refl _, Sub.refl _, Sub.refl _, trivial⟩, Sub.aggs ⟨Sub.refl _, Sub.refl _, Sub.refl _, Sub.nil _, Sub.refl _, Sub.refl _, Sub.refl _, Sub.refl _, Sub.refl _, Sub.refl _, Sub.refl _, Sub.refl _, Sub.refl _, Sub.refl _, Sub.refl _, Sub.refl _, Sub.refl _, trivial⟩, trivial⟩))] (by kernel_rfl)

end Go.Ops

/- OPS, 25: the examples hold; the first statement; plain facts for the others. -/
namespace Go.Ops
set_option maxRecDepth 100000
set_option linter.unusedSimpArgs false
set_option linter.unusedVariables false
open Go Go.Am Go.Proofs Go.Seat Go.Vec Go.Cdc

theorem fewO_few {o : OP} (h : fewO o = true) : Few 20000 o := by
  simp only [fewO, Bool.and_eq_true, decide_eq_true_eq] at h
  obtain ⟨h1, h2⟩ := h
  exact ⟨by omega, by omega, by omega, by omega⟩
theorem fewO_cx {o : OP} (h : fewO o = true) : o.cx.length ≤ 600 := by
  simp only [fewO, Bool.and_eq_true, decide_eq_true_eq] at h
  omega
theorem dec_of_enc (o : OP) {B : Nat} (hB : B ≤ 200000) (h : Okp o) (f : Few B o) (h0 : chkOE o = 0) : decOp (encB (opV o)) = (o, 0) := by
  obtain ⟨e1, e2⟩ := dec_enc (opV o) (opV_wf o) (opV_ok (by omega) h f) (by have := opV_dp o; omega)
  unfold decOp
  rw [e1, e2, decO_opV, if_pos rfl, if_pos ⟨h0, rfl⟩]
theorem chk01 (o : OP) : chkOE o = 0 ∨ chkOE o = 170 := by
  unfold chkOE; split <;> simp
theorem exO_okp (t : Int) (h : I64 t) : Okp (exO t) := by
  constructor <;> first | exact h | (simp [exO, I64])
theorem exU_okp : Okp exU := by
  constructor <;> simp [exU, I64]
theorem zop_okp : Okp zop := by
  constructor <;> simp [zop, I64]
theorem exO_few (t : Int) : Few 100 (exO t) := ⟨by simp [exO], by simp [exO], by simp [exO], (by decide : (ByteArray.mk #[99]).size ≤ 100)⟩
theorem exU_few : Few 100 exU := ⟨by simp [exU], by simp [exU], by simp [exU], by simp [exU]⟩
theorem zop_few : Few 100 zop := ⟨by simp [zop], by simp [zop], by simp [zop], by simp [zop]⟩
theorem chk_ex1 : chkOE (exO 1) = 0 := by decide
theorem chk_exU : chkOE exU = 170 := by decide
theorem chk_z : chkOE zop = 170 := by decide
theorem exO_enc : (encB (opV (exO 1))).length = 43 := by rfl
theorem sane_c : CallC P G 10 [] [] (.ret (bool true)) [] := by
  have i1 : I64 (1 : Int) := by simp [I64]
  have i2 : I64 (2 : Int) := by simp [I64]
  have hE := enc_c (exO 1) (B := 100) (by decide) (exO_okp 1 i1) (exO_few 1)
  rw [encO, if_pos chk_ex1, chk_ex1] at hE
  have hF := encode_ok (opV (exO 1)) (opV_ok (by decide) (exO_okp 1 i1) (exO_few 1)) (by have := opV_dp (exO 1); omega) (opV_wf _) (by rw [exO_enc]; decide)
  have hD := dec_cc (encB (opV (exO 1))) (by rw [exO_enc]; decide)
  rw [dec_of_enc (exO 1) (B := 100) (by decide) (exO_okp 1 i1) (exO_few 1) chk_ex1] at hD
  have h0 := dec_cc [] (by decide)
  have d0 : decOp [] = (zop, 10) := by rfl
  rw [d0] at h0
  have hI := decode_c [] (by decide)
  rw [bad1.1, bad1.2] at hI
  have hS := same_c (exO 1) (exO 1) (by simp [exO])
  have hS2 := same_c (exO 1) (exO 2) (by simp [exO])
  rw [decide_eq_true rfl] at hS
  have e2 : decide (exO 1 = exO 2) = false := by decide
  rw [e2] at hS2
  have hC0 := check_c zop (zop_okp.okn (by decide) zop_few)
  have hC1 := check_c (exO 1) ((exO_okp 1 i1).okn (by decide) (exO_few 1))
  have hC2 := check_c exU (exU_okp.okn (by decide) exU_few)
  rw [chk_z] at hC0
  rw [chk_ex1] at hC1
  rw [chk_exU] at hC2
  have hE2 := enc_c (exO 2) (B := 100) (by decide) (exO_okp 2 i2) (exO_few 2)
  have hM0 := cmp_c (exO 1) (exO 1) _ _ _ _ hE hE
  have hM1 := cmp_c (exO 1) (exO 2) _ _ _ _ hE hE2
  have hM2 := cmp_c (exO 2) (exO 1) _ _ _ _ hE2 hE
  have m0 : cmpOV (exO 1) (exO 1) (encB (opV (exO 1))) (encB (opV (exO 1))) = 0 := by
    unfold cmpOV
    rw [if_pos (by decide)]
    exact (cmp_eq0 _ _).2 rfl
  have m1 : ∀ x y, cmpOV (exO 1) (exO 2) x y = -1 := fun x y => by
    unfold cmpOV
    rw [if_neg (by decide)]
    decide
  have m2 : ∀ x y, cmpOV (exO 2) (exO 1) x y = 1 := fun x y => by
    unfold cmpOV
    rw [if_neg (by decide)]
    decide
  rw [m0] at hM0
  rw [m1] at hM1
  rw [m2] at hM2
  exact sane_w _ hE hF hD h0 hI hS hC0 hC1 hM0 hM1 hM2 hC2 hS2 (by rw [exO_enc]; decide) (by rw [exO_enc]; decide) (by simp) trivial

end Go.Ops

/- OPS, 31: OpsContents' walks. -/
namespace Go.Ops
set_option maxRecDepth 100000
set_option linter.unusedSimpArgs false
set_option linter.unusedVariables false
open Go Go.Am Go.Proofs Go.Seat Go.Vec Go.Cdc

end Go.Ops

/- OPS, 32: OpsKnows' walks. -/
namespace Go.Ops
set_option maxRecDepth 100000
set_option linter.unusedSimpArgs false
set_option linter.unusedVariables false
open Go Go.Am Go.Proofs Go.Seat Go.Vec Go.Cdc

end Go.Ops

/- OPS, 33: OpsFields' walks. -/
namespace Go.Ops
set_option maxRecDepth 100000
set_option linter.unusedSimpArgs false
set_option linter.unusedVariables false
open Go Go.Am Go.Proofs Go.Seat Go.Vec Go.Cdc

theorem fl_f (o : OP) (w : UInt8) (hs : CallC P G 10 [] [] (.ret (bool true)) []) (ha : CallC P G 11 [op o] [] (.ret (bool false)) []) (h : True) : CallC P G 9 [op o, u8 w] [] (AOut.ret (Am.bool true)) [] := by
  have _ := h
  exact callC_of [kc [] (@hs ), kf (Eq.refl false), kc [] (@ha ), kt (Eq.refl true), kt (Eq.refl true)] (by kernel_rfl)

theorem fl_c (o : OP) (w : UInt8) (hs : CallC P G 10 [] [] (.ret (bool true)) []) (ha : CallC P G 11 [op o] [] (.ret (bool true)) []) (hc : CallC P G 12 [op o] [] (.ret (int 170)) []) (h : True) : CallC P G 9 [op o, u8 w] [] (AOut.ret (Am.bool true)) [] := by
  have _ := h
  exact callC_of [kc [] (@hs ), kf (Eq.refl false), kc [] (@ha ), kf (Eq.refl false), kc [] (@hc ), kt (Eq.refl true)] (by kernel_rfl)

theorem fl_0 (o : OP) (w : UInt8) (hw : Int.tmod (w.toNat : Int) 8 = 0) (hs : CallC P G 10 [] [] (.ret (bool true)) []) (ha : CallC P G 11 [op o] [] (.ret (bool true)) []) (hc : CallC P G 12 [op o] [] (.ret (int 0)) []) (p1 : 0 ≤ Int.tmod o.pk 4) (p2 : Int.tmod o.pk 4 ≤ 3) (hx : CallC P G 12 [op { o with pk := Int.tmod o.pk 4 + 1 }] [] (.ret (int 170)) []) (h : True) : CallC P G 9 [op o, u8 w] [] (AOut.ret (Am.bool true)) [] := by
  have _ := h
  exact callC_of [kc [] (@hs ), kf (Eq.refl false), kc [] (@ha ), kf (Eq.refl false), kc [] (@hc ), kf (Eq.refl false), kp (show (8 : Int) ≠ (0 : Int) from (by omega)), kt (show (Int.tmod (↑(UInt8.toNat w) : Int) 8 == 0) = true from (decide_eq_true (by omega))), kp (show (4 : Int) ≠ (0 : Int) from (by omega)), kv 27 (show Am.Sub (int (IntKind.wrap IntKind.i64 (Int.tmod (OP.pk o) 4 + 1))) (int (Int.tmod (OP.pk o) 4 + 1)) from (Sub.of_wrap (by omega) (by omega) rfl)), kc [] (@hx )] (by kernel_rfl)

theorem fl_1 (o : OP) (w : UInt8) (hw : Int.tmod (w.toNat : Int) 8 = 1) (hs : CallC P G 10 [] [] (.ret (bool true)) []) (ha : CallC P G 11 [op o] [] (.ret (bool true)) []) (hc : CallC P G 12 [op o] [] (.ret (int 0)) []) (hx : CallC P G 12 [op { o with tm := 0 }] [] (.ret (int 170)) []) (h : True) : CallC P G 9 [op o, u8 w] [] (AOut.ret (Am.bool true)) [] := by
  have _ := h
  exact callC_of [kc [] (@hs ), kf (Eq.refl false), kc [] (@ha ), kf (Eq.refl false), kc [] (@hc ), kf (Eq.refl false), kp (show (8 : Int) ≠ (0 : Int) from (by omega)), kf (show (Int.tmod (↑(UInt8.toNat w) : Int) 8 == 0) = false from (decide_eq_false (by omega))), kt (show (Int.tmod (↑(UInt8.toNat w) : Int) 8 == 1) = true from (decide_eq_true (by omega))), kc [] (@hx )] (by kernel_rfl)

theorem fl_2 (o : OP) (w : UInt8) (hw : Int.tmod (w.toNat : Int) 8 = 2) (hs : CallC P G 10 [] [] (.ret (bool true)) []) (ha : CallC P G 11 [op o] [] (.ret (bool true)) []) (hc : CallC P G 12 [op o] [] (.ret (int 0)) []) (hx : CallC P G 12 [op { o with sq := 1048577 }] [] (.ret (int 170)) []) (h : True) : CallC P G 9 [op o, u8 w] [] (AOut.ret (Am.bool true)) [] := by
  have _ := h
  exact callC_of [kc [] (@hs ), kf (Eq.refl false), kc [] (@ha ), kf (Eq.refl false), kc [] (@hc ), kf (Eq.refl false), kp (show (8 : Int) ≠ (0 : Int) from (by omega)), kf (show (Int.tmod (↑(UInt8.toNat w) : Int) 8 == 0) = false from (decide_eq_false (by omega))), kf (show (Int.tmod (↑(UInt8.toNat w) : Int) 8 == 1) = false from (decide_eq_false (by omega))), kt (show (Int.tmod (↑(UInt8.toNat w) : Int) 8 == 2) = true from (decide_eq_true (by omega))), kc [] (@hx )] (by kernel_rfl)

theorem fl_3a (o : OP) (w : UInt8) (hw : Int.tmod (w.toNat : Int) 8 = 3) (hs : CallC P G 10 [] [] (.ret (bool true)) []) (ha : CallC P G 11 [op o] [] (.ret (bool true)) []) (hc : CallC P G 12 [op o] [] (.ret (int 0)) []) (k : o.kd = 3 ∨ o.kd = 4) (h : (((OP.kd o = (3 : Int)) → True) ∧ ((¬OP.kd o = (3 : Int)) → True))) : CallC P G 9 [op o, u8 w] [] (AOut.ret (Am.bool true)) [] := by
  have hz0 := (@hs )
  have hz1 := (@ha )
  have hz2 := (@hc )
  have hz3 : (8 : Int) ≠ (0 : Int) := (by omega)
  have hz4 : (Int.tmod (↑(UInt8.toNat w) : Int) 8 == 0) = false := (decide_eq_false (by omega))
  have hz5 : (Int.tmod (↑(UInt8.toNat w) : Int) 8 == 1) = false := (decide_eq_false (by omega))
  have hz6 : (Int.tmod (↑(UInt8.toNat w) : Int) 8 == 2) = false := (decide_eq_false (by omega))
  have hz7 : (Int.tmod (↑(UInt8.toNat w) : Int) 8 == 3) = true := (decide_eq_true (by omega))
  by_cases c5 : (OP.kd o = (3 : Int))
  · have h := h.1 c5
    have _ := h
    exact callC_of [kc [] hz0, kf (Eq.refl false), kc [] hz1, kf (Eq.refl false), kc [] hz2, kf (Eq.refl false), kp hz3, kf hz4, kf hz5, kf hz6, kt hz7, kt (beq_iff_eq.2 c5), kt (Eq.refl true)] (by kernel_rfl)
  · have h := h.2 c5
    have _ := h
    exact callC_of [kc [] hz0, kf (Eq.refl false), kc [] hz1, kf (Eq.refl false), kc [] hz2, kf (Eq.refl false), kp hz3, kf hz4, kf hz5, kf hz6, kt hz7, kf (beq_eq_false_iff_ne.2 c5), kt (show (OP.kd o == 4) = true from (decide_eq_true (by omega)))] (by kernel_rfl)

theorem fl_3b (o : OP) (w : UInt8) (hw : Int.tmod (w.toNat : Int) 8 = 3) (hs : CallC P G 10 [] [] (.ret (bool true)) []) (ha : CallC P G 11 [op o] [] (.ret (bool true)) []) (hc : CallC P G 12 [op o] [] (.ret (int 0)) []) (k1 : ¬ o.kd = 3) (k2 : ¬ o.kd = 4) (hx : CallC P G 12 [op { o with ky := ByteArray.mk #[107] }] [] (.ret (int 170)) []) (h : True) : CallC P G 9 [op o, u8 w] [] (AOut.ret (Am.bool true)) [] := by
  have _ := h
  exact callC_of [kc [] (@hs ), kf (Eq.refl false), kc [] (@ha ), kf (Eq.refl false), kc [] (@hc ), kf (Eq.refl false), kp (show (8 : Int) ≠ (0 : Int) from (by omega)), kf (show (Int.tmod (↑(UInt8.toNat w) : Int) 8 == 0) = false from (decide_eq_false (by omega))), kf (show (Int.tmod (↑(UInt8.toNat w) : Int) 8 == 1) = false from (decide_eq_false (by omega))), kf (show (Int.tmod (↑(UInt8.toNat w) : Int) 8 == 2) = false from (decide_eq_false (by omega))), kt (show (Int.tmod (↑(UInt8.toNat w) : Int) 8 == 3) = true from (decide_eq_true (by omega))), kf (show (OP.kd o == 3) = false from (decide_eq_false (by omega))), kf (show (OP.kd o == 4) = false from (decide_eq_false (by omega))), kc [] (@hx )] (by kernel_rfl)

theorem fl_4a (o : OP) (w : UInt8) (hw : Int.tmod (w.toNat : Int) 8 = 4) (hs : CallC P G 10 [] [] (.ret (bool true)) []) (ha : CallC P G 11 [op o] [] (.ret (bool true)) []) (hc : CallC P G 12 [op o] [] (.ret (int 0)) []) (k : o.kd = 8) (h : True) : CallC P G 9 [op o, u8 w] [] (AOut.ret (Am.bool true)) [] := by
  have _ := h
  exact callC_of [kc [] (@hs ), kf (Eq.refl false), kc [] (@ha ), kf (Eq.refl false), kc [] (@hc ), kf (Eq.refl false), kp (show (8 : Int) ≠ (0 : Int) from (by omega)), kf (show (Int.tmod (↑(UInt8.toNat w) : Int) 8 == 0) = false from (decide_eq_false (by omega))), kf (show (Int.tmod (↑(UInt8.toNat w) : Int) 8 == 1) = false from (decide_eq_false (by omega))), kf (show (Int.tmod (↑(UInt8.toNat w) : Int) 8 == 2) = false from (decide_eq_false (by omega))), kf (show (Int.tmod (↑(UInt8.toNat w) : Int) 8 == 3) = false from (decide_eq_false (by omega))), kt (show (Int.tmod (↑(UInt8.toNat w) : Int) 8 == 4) = true from (decide_eq_true (by omega))), kt (show (OP.kd o == 8) = true from (decide_eq_true (by omega)))] (by kernel_rfl)

theorem fl_4b (o : OP) (w : UInt8) (hw : Int.tmod (w.toNat : Int) 8 = 4) (hs : CallC P G 10 [] [] (.ret (bool true)) []) (ha : CallC P G 11 [op o] [] (.ret (bool true)) []) (hc : CallC P G 12 [op o] [] (.ret (int 0)) []) (k1 : ¬ o.kd = 8) (hx : CallC P G 12 [op { o with t1 := 1, t2 := 1, t3 := 0 }] [] (.ret (int 170)) []) (h : True) : CallC P G 9 [op o, u8 w] [] (AOut.ret (Am.bool true)) [] := by
  have _ := h
  exact callC_of [kc [] (@hs ), kf (Eq.refl false), kc [] (@ha ), kf (Eq.refl false), kc [] (@hc ), kf (Eq.refl false), kp (show (8 : Int) ≠ (0 : Int) from (by omega)), kf (show (Int.tmod (↑(UInt8.toNat w) : Int) 8 == 0) = false from (decide_eq_false (by omega))), kf (show (Int.tmod (↑(UInt8.toNat w) : Int) 8 == 1) = false from (decide_eq_false (by omega))), kf (show (Int.tmod (↑(UInt8.toNat w) : Int) 8 == 2) = false from (decide_eq_false (by omega))), kf (show (Int.tmod (↑(UInt8.toNat w) : Int) 8 == 3) = false from (decide_eq_false (by omega))), kt (show (Int.tmod (↑(UInt8.toNat w) : Int) 8 == 4) = true from (decide_eq_true (by omega))), kf (show (OP.kd o == 8) = false from (decide_eq_false (by omega))), kc [] (@hx )] (by kernel_rfl)

theorem fl_5a (o : OP) (w : UInt8) (hw : Int.tmod (w.toNat : Int) 8 = 5) (hs : CallC P G 10 [] [] (.ret (bool true)) []) (ha : CallC P G 11 [op o] [] (.ret (bool true)) []) (hc : CallC P G 12 [op o] [] (.ret (int 0)) []) (k : o.kd = 8) (h : True) : CallC P G 9 [op o, u8 w] [] (AOut.ret (Am.bool true)) [] := by
  have _ := h
  exact callC_of [kc [] (@hs ), kf (Eq.refl false), kc [] (@ha ), kf (Eq.refl false), kc [] (@hc ), kf (Eq.refl false), kp (show (8 : Int) ≠ (0 : Int) from (by omega)), kf (show (Int.tmod (↑(UInt8.toNat w) : Int) 8 == 0) = false from (decide_eq_false (by omega))), kf (show (Int.tmod (↑(UInt8.toNat w) : Int) 8 == 1) = false from (decide_eq_false (by omega))), kf (show (Int.tmod (↑(UInt8.toNat w) : Int) 8 == 2) = false from (decide_eq_false (by omega))), kf (show (Int.tmod (↑(UInt8.toNat w) : Int) 8 == 3) = false from (decide_eq_false (by omega))), kf (show (Int.tmod (↑(UInt8.toNat w) : Int) 8 == 4) = false from (decide_eq_false (by omega))), kt (show (Int.tmod (↑(UInt8.toNat w) : Int) 8 == 5) = true from (decide_eq_true (by omega))), kt (show (OP.kd o == 8) = true from (decide_eq_true (by omega)))] (by kernel_rfl)

theorem fl_5b (o : OP) (w : UInt8) (hw : Int.tmod (w.toNat : Int) 8 = 5) (hs : CallC P G 10 [] [] (.ret (bool true)) []) (ha : CallC P G 11 [op o] [] (.ret (bool true)) []) (hc : CallC P G 12 [op o] [] (.ret (int 0)) []) (k1 : ¬ o.kd = 8) (hx : CallC P G 12 [op { o with on := true }] [] (.ret (int 170)) []) (h : True) : CallC P G 9 [op o, u8 w] [] (AOut.ret (Am.bool true)) [] := by
  have _ := h
  exact callC_of [kc [] (@hs ), kf (Eq.refl false), kc [] (@ha ), kf (Eq.refl false), kc [] (@hc ), kf (Eq.refl false), kp (show (8 : Int) ≠ (0 : Int) from (by omega)), kf (show (Int.tmod (↑(UInt8.toNat w) : Int) 8 == 0) = false from (decide_eq_false (by omega))), kf (show (Int.tmod (↑(UInt8.toNat w) : Int) 8 == 1) = false from (decide_eq_false (by omega))), kf (show (Int.tmod (↑(UInt8.toNat w) : Int) 8 == 2) = false from (decide_eq_false (by omega))), kf (show (Int.tmod (↑(UInt8.toNat w) : Int) 8 == 3) = false from (decide_eq_false (by omega))), kf (show (Int.tmod (↑(UInt8.toNat w) : Int) 8 == 4) = false from (decide_eq_false (by omega))), kt (show (Int.tmod (↑(UInt8.toNat w) : Int) 8 == 5) = true from (decide_eq_true (by omega))), kf (show (OP.kd o == 8) = false from (decide_eq_false (by omega))), kc [] (@hx )] (by kernel_rfl)

theorem fl_6a (o : OP) (w : UInt8) (hw : Int.tmod (w.toNat : Int) 8 = 6) (hs : CallC P G 10 [] [] (.ret (bool true)) []) (ha : CallC P G 11 [op o] [] (.ret (bool true)) []) (hc : CallC P G 12 [op o] [] (.ret (int 0)) []) (k : o.kd = 5 ∨ o.kd = 7 ∨ o.kd = 8) (h : (((OP.kd o = (5 : Int)) → True) ∧ ((¬OP.kd o = (5 : Int)) → (((OP.kd o = (7 : Int)) → True) ∧ ((¬OP.kd o = (7 : Int)) → True))))) : CallC P G 9 [op o, u8 w] [] (AOut.ret (Am.bool true)) [] := by
  have hz0 := (@hs )
  have hz1 := (@ha )
  have hz2 := (@hc )
  have hz3 : (8 : Int) ≠ (0 : Int) := (by omega)
  have hz4 : (Int.tmod (↑(UInt8.toNat w) : Int) 8 == 0) = false := (decide_eq_false (by omega))
  have hz5 : (Int.tmod (↑(UInt8.toNat w) : Int) 8 == 1) = false := (decide_eq_false (by omega))
  have hz6 : (Int.tmod (↑(UInt8.toNat w) : Int) 8 == 2) = false := (decide_eq_false (by omega))
  have hz7 : (Int.tmod (↑(UInt8.toNat w) : Int) 8 == 3) = false := (decide_eq_false (by omega))
  have hz8 : (Int.tmod (↑(UInt8.toNat w) : Int) 8 == 4) = false := (decide_eq_false (by omega))
  have hz9 : (Int.tmod (↑(UInt8.toNat w) : Int) 8 == 5) = false := (decide_eq_false (by omega))
  have hz10 : (Int.tmod (↑(UInt8.toNat w) : Int) 8 == 6) = true := (decide_eq_true (by omega))
  by_cases c8 : (OP.kd o = (5 : Int))
  · have h := h.1 c8
    have _ := h
    exact callC_of [kc [] hz0, kf (Eq.refl false), kc [] hz1, kf (Eq.refl false), kc [] hz2, kf (Eq.refl false), kp hz3, kf hz4, kf hz5, kf hz6, kf hz7, kf hz8, kf hz9, kt hz10, kt (beq_iff_eq.2 c8), kt (Eq.refl true), kt (Eq.refl true)] (by kernel_rfl)
  · have h := h.2 c8
    by_cases c9 : (OP.kd o = (7 : Int))
    · have h := h.1 c9
      have _ := h
      exact callC_of [kc [] hz0, kf (Eq.refl false), kc [] hz1, kf (Eq.refl false), kc [] hz2, kf (Eq.refl false), kp hz3, kf hz4, kf hz5, kf hz6, kf hz7, kf hz8, kf hz9, kt hz10, kf (beq_eq_false_iff_ne.2 c8), kt (beq_iff_eq.2 c9), kt (Eq.refl true)] (by kernel_rfl)
    · have h := h.2 c9
      have _ := h
      exact callC_of [kc [] hz0, kf (Eq.refl false), kc [] hz1, kf (Eq.refl false), kc [] hz2, kf (Eq.refl false), kp hz3, kf hz4, kf hz5, kf hz6, kf hz7, kf hz8, kf hz9, kt hz10, kf (beq_eq_false_iff_ne.2 c8), kf (beq_eq_false_iff_ne.2 c9), kt (show (OP.kd o == 8) = true from (decide_eq_true (by omega)))] (by kernel_rfl)

theorem fl_6b (o : OP) (w : UInt8) (hw : Int.tmod (w.toNat : Int) 8 = 6) (hs : CallC P G 10 [] [] (.ret (bool true)) []) (ha : CallC P G 11 [op o] [] (.ret (bool true)) []) (hc : CallC P G 12 [op o] [] (.ret (int 0)) []) (k1 : ¬ o.kd = 5) (k2 : ¬ o.kd = 7) (k3 : ¬ o.kd = 8) (hx : CallC P G 12 [op { o with n := 1 }] [] (.ret (int 170)) []) (h : True) : CallC P G 9 [op o, u8 w] [] (AOut.ret (Am.bool true)) [] := by
  have _ := h
  exact callC_of [kc [] (@hs ), kf (Eq.refl false), kc [] (@ha ), kf (Eq.refl false), kc [] (@hc ), kf (Eq.refl false), kp (show (8 : Int) ≠ (0 : Int) from (by omega)), kf (show (Int.tmod (↑(UInt8.toNat w) : Int) 8 == 0) = false from (decide_eq_false (by omega))), kf (show (Int.tmod (↑(UInt8.toNat w) : Int) 8 == 1) = false from (decide_eq_false (by omega))), kf (show (Int.tmod (↑(UInt8.toNat w) : Int) 8 == 2) = false from (decide_eq_false (by omega))), kf (show (Int.tmod (↑(UInt8.toNat w) : Int) 8 == 3) = false from (decide_eq_false (by omega))), kf (show (Int.tmod (↑(UInt8.toNat w) : Int) 8 == 4) = false from (decide_eq_false (by omega))), kf (show (Int.tmod (↑(UInt8.toNat w) : Int) 8 == 5) = false from (decide_eq_false (by omega))), kt (show (Int.tmod (↑(UInt8.toNat w) : Int) 8 == 6) = true from (decide_eq_true (by omega))), kf (show (OP.kd o == 5) = false from (decide_eq_false (by omega))), kf (show (OP.kd o == 7) = false from (decide_eq_false (by omega))), kf (show (OP.kd o == 8) = false from (decide_eq_false (by omega))), kc [] (@hx )] (by kernel_rfl)

theorem fl_7 (o : OP) (w : UInt8) (hw : Int.tmod (w.toNat : Int) 8 = 7) (hs : CallC P G 10 [] [] (.ret (bool true)) []) (ha : CallC P G 11 [op o] [] (.ret (bool true)) []) (hc : CallC P G 12 [op o] [] (.ret (int 0)) []) (l : List D) (hj : CallC P G 27 [vec o.cx, dot (o.dv, o.sq)] [] (.ret (.tup [vec l, int 0])) []) (hx : CallC P G 12 [op { o with cx := l }] [] (.ret (int 170)) []) (h : True) : CallC P G 9 [op o, u8 w] [] (AOut.ret (Am.bool true)) [] := by
  have _ := h
  exact callC_of [kc [] (@hs ), kf (Eq.refl false), kc [] (@ha ), kf (Eq.refl false), kc [] (@hc ), kf (Eq.refl false), kp (show (8 : Int) ≠ (0 : Int) from (by omega)), kf (show (Int.tmod (↑(UInt8.toNat w) : Int) 8 == 0) = false from (decide_eq_false (by omega))), kf (show (Int.tmod (↑(UInt8.toNat w) : Int) 8 == 1) = false from (decide_eq_false (by omega))), kf (show (Int.tmod (↑(UInt8.toNat w) : Int) 8 == 2) = false from (decide_eq_false (by omega))), kf (show (Int.tmod (↑(UInt8.toNat w) : Int) 8 == 3) = false from (decide_eq_false (by omega))), kf (show (Int.tmod (↑(UInt8.toNat w) : Int) 8 == 4) = false from (decide_eq_false (by omega))), kf (show (Int.tmod (↑(UInt8.toNat w) : Int) 8 == 5) = false from (decide_eq_false (by omega))), kf (show (Int.tmod (↑(UInt8.toNat w) : Int) 8 == 6) = false from (decide_eq_false (by omega))), kt (show (Int.tmod (↑(UInt8.toNat w) : Int) 8 == 7) = true from (decide_eq_true (by omega))), kc [] (@hj ), kf (Eq.refl false), kc [] (@hx )] (by kernel_rfl)

end Go.Ops

/- OPS, 26: the statements' walks. -/
namespace Go.Ops
set_option maxRecDepth 100000
set_option linter.unusedSimpArgs false
set_option linter.unusedVariables false
open Go Go.Am Go.Proofs Go.Seat Go.Vec Go.Cdc

end Go.Ops

/- OPS, 27: OpsEncodeSpec's loop. -/
namespace Go.Ops
set_option maxRecDepth 100000
set_option linter.unusedSimpArgs false
set_option linter.unusedVariables false
open Go Go.Am Go.Proofs Go.Seat Go.Vec Go.Cdc

end Go.Ops

/- OPS, 28: OpsEncodeSpec, OpsBack. -/
namespace Go.Ops
set_option maxRecDepth 100000
set_option linter.unusedSimpArgs false
set_option linter.unusedVariables false
open Go Go.Am Go.Proofs Go.Seat Go.Vec Go.Cdc

end Go.Ops

/- VECTOR, plain law: what the merged vectors are, with no program in sight. -/
namespace Go.Vec
set_option maxRecDepth 100000
set_option linter.unusedSimpArgs false
set_option linter.unusedVariables false
open Go Go.Am

/-- A valid vector. -/
structure Ok (v : List D) : Prop where
  dots : ∀ d ∈ v, isDotB d = true
  sorted : v.Pairwise fun p q => p.1 < q.1

theorem isDot_iff {d : D} : isDotB d = true ↔ 0 ≤ d.1 ∧ d.1 < 512 ∧ 1 ≤ d.2 ∧ d.2 ≤ 1048576 := by
  simp only [isDotB, Bool.and_eq_true, decide_eq_true_eq]
  omega

theorem okN_iff {v : List D} : ∀ n k, k + n = v.length → (okN v n k = true ↔ (∀ j, k ≤ j → ∀ x, v[j]? = some x → isDotB x = true ∧ (j = 0 ∨ ∃ y, v[j - 1]? = some y ∧ y.1 < x.1)))
  | 0, k, h => by
    simp only [okN, true_iff]
    intro j hj x hx
    rw [List.getElem?_eq_none (by omega)] at hx
    cases hx
  | n + 1, k, h => by
    have ih := okN_iff (v := v) n (k + 1) (by omega)
    have hlt : k < v.length := by omega
    simp only [okN, Bool.and_eq_true]
    rw [ih]
    have hx : v[k]? = some v[k] := List.getElem?_eq_getElem hlt
    have hat : okAt v k = true ↔ (isDotB v[k] = true ∧ (k = 0 ∨ ∃ y, v[k - 1]? = some y ∧ y.1 < v[k].1)) := by
      simp only [okAt, hx, Bool.and_eq_true, Bool.or_eq_true, beq_iff_eq]
      refine and_congr_right fun _ => or_congr_right ?_
      cases hy : v[k - 1]? with
      | none => simp
      | some y => simp
    rw [hat]
    constructor
    · rintro ⟨h1, h2⟩ j hj x hjx
      rcases Nat.lt_or_eq_of_le hj with hj | rfl
      · exact h2 j hj x hjx
      · rw [hx] at hjx; cases hjx; exact h1
    · intro h'
      exact ⟨h' k (Nat.le_refl _) _ hx, fun j hj => h' j (by omega)⟩

theorem ok_iff {v : List D} : okB v = true ↔ Ok v := by
  unfold okB
  rw [okN_iff v.length 0 (by omega)]
  constructor
  · intro h
    refine ⟨fun d hd => ?_, ?_⟩
    · obtain ⟨j, hj⟩ := List.mem_iff_getElem?.1 hd
      exact (h j (Nat.zero_le _) d hj).1
    · rw [List.pairwise_iff_getElem]
      have step : ∀ j (h1 : j + 1 < v.length), (v[j]'(by omega)).1 < v[j + 1].1 := fun j h1 => by
        rcases (h (j + 1) (Nat.zero_le _) _ (List.getElem?_eq_getElem h1)).2 with h0 | ⟨y, hy, hlt⟩
        · omega
        · rw [Nat.add_sub_cancel, List.getElem?_eq_getElem (by omega)] at hy
          have hy' := Option.some.inj hy
          rw [← hy'] at hlt
          exact hlt
      have all : ∀ m i (h1 : i + m + 1 < v.length), (v[i]'(by omega)).1 < (v[i + m + 1]).1 := by
        intro m
        induction m with
        | zero => intro i h1; exact step i h1
        | succ m ih => intro i h1; exact Int.lt_trans (ih i (by omega)) (step (i + m + 1) (by omega))
      intro i j hi hj hij
      have := all (j - i - 1) i (by omega)
      have e : i + (j - i - 1) + 1 = j := by omega
      simpa only [e] using this
  · intro h j _ x hx
    refine ⟨h.dots x (List.mem_of_getElem? hx), ?_⟩
    by_cases h0 : j = 0
    · exact .inl h0
    · right
      obtain ⟨h1, h2⟩ := List.getElem?_eq_some_iff.1 hx
      refine ⟨v[j - 1]'(by omega), List.getElem?_eq_getElem (by omega), ?_⟩
      have := (List.pairwise_iff_getElem.1 h.sorted) (j - 1) j (by omega) h1 (by omega)
      rw [h2] at this
      exact this

theorem Ok.tail {d : D} {v : List D} (h : Ok (d :: v)) : Ok v := ⟨fun x hx => h.dots x (List.mem_cons_of_mem _ hx), (List.pairwise_cons.1 h.sorted).2⟩
theorem Ok.lt {d : D} {v : List D} (h : Ok (d :: v)) : ∀ x ∈ v, d.1 < x.1 := (List.pairwise_cons.1 h.sorted).1
theorem Ok.nil : Ok [] := ⟨by simp, .nil⟩

theorem atV_ne {dev : Int} {d : D} {v : List D} (h : d.1 ≠ dev) : atV dev (d :: v) = atV dev v := if_neg h
theorem atV_not {dev : Int} : ∀ {v : List D}, (∀ d ∈ v, d.1 ≠ dev) → atV dev v = 0
  | [], _ => rfl
  | d :: v, h => by rw [atV, if_neg (h d (by simp))]; exact atV_not fun x hx => h x (List.mem_cons_of_mem _ hx)
theorem atV_mem {v : List D} (h : Ok v) : ∀ d ∈ v, atV d.1 v = d.2 := by
  induction v with
  | nil => simp
  | cons x v ih =>
    intro d hd
    rcases List.mem_cons.1 hd with rfl | hd
    · rw [atV, if_pos rfl]
    · rw [atV, if_neg (by have := h.lt d hd; omega)]
      exact ih h.tail d hd
theorem atV_pos {v : List D} (h : Ok v) {dev : Int} (hp : atV dev v ≠ 0) : ∃ d ∈ v, d.1 = dev ∧ d.2 = atV dev v := by
  by_cases hd : ∃ d ∈ v, d.1 = dev
  · obtain ⟨d, hd, rfl⟩ := hd
    exact ⟨d, hd, rfl, (atV_mem h d hd).symm⟩
  · exact absurd (atV_not fun d hm e => hd ⟨d, hm, e⟩) hp
theorem atV_range {v : List D} (h : Ok v) (dev : Int) : 0 ≤ atV dev v ∧ atV dev v ≤ 1048576 := by
  by_cases hp : atV dev v = 0
  · omega
  · obtain ⟨d, hd, _, he⟩ := atV_pos h hp
    have := isDot_iff.1 (h.dots d hd)
    omega
/-! ### The pairs -/
theorem pr_spec : ∀ n (a b : List D), a.length + b.length ≤ n → Ok a → Ok b →
    (prN n a b).Pairwise (fun p q => p.1 < q.1) ∧ (∀ p ∈ prN n a b, (∃ q ∈ a, q.1 = p.1) ∨ (∃ q ∈ b, q.1 = p.1)) ∧ (∀ p ∈ prN n a b, p.2.1 = atV p.1 a ∧ p.2.2 = atV p.1 b) ∧
    (∀ q ∈ a, ∃ p ∈ prN n a b, p.1 = q.1) ∧ (∀ q ∈ b, ∃ p ∈ prN n a b, p.1 = q.1) := by
  intro n
  induction n with
  | zero =>
    intro a b hn ha hb
    have ea : a = [] := List.eq_nil_of_length_eq_zero (by omega)
    have eb : b = [] := List.eq_nil_of_length_eq_zero (by omega)
    subst ea eb
    simp [prN]
  | succ n ih =>
    intro a b hn ha hb
    match a, b, hn, ha, hb with
    | [], [], _, _, _ => simp [prN]
    | x :: a, [], hn, ha, hb =>
      obtain ⟨i1, i2, i3, i4, _⟩ := ih a [] (by simp at hn ⊢; omega) ha.tail hb
      have low : ∀ p ∈ prN n a [], x.1 < p.1 := fun p hp => by
        rcases i2 p hp with ⟨q, hq, e⟩ | ⟨q, hq, _⟩
        · have := ha.lt q hq; omega
        · cases hq
      simp only [prN]
      refine ⟨List.pairwise_cons.2 ⟨low, i1⟩, fun p hp => ?_, fun p hp => ?_, fun q hq => ?_, fun q hq => (by cases hq)⟩
      · rcases List.mem_cons.1 hp with rfl | hp
        · exact .inl ⟨x, by simp, rfl⟩
        · exact (i2 p hp).imp (fun ⟨q, h1, h2⟩ => ⟨q, List.mem_cons_of_mem _ h1, h2⟩) id
      · rcases List.mem_cons.1 hp with rfl | hp
        · exact ⟨by rw [atV_mem ha x (by simp)], rfl⟩
        · have hne : x.1 ≠ p.1 := by have := low p hp; omega
          rw [atV_ne hne]
          exact i3 p hp
      · rcases List.mem_cons.1 hq with rfl | hq
        · exact ⟨_, List.mem_cons_self, rfl⟩
        · obtain ⟨p, h1, h2⟩ := i4 q hq
          exact ⟨p, List.mem_cons_of_mem _ h1, h2⟩
    | [], y :: b, hn, ha, hb =>
      obtain ⟨i1, i2, i3, _, i5⟩ := ih [] b (by simp at hn ⊢; omega) ha hb.tail
      have low : ∀ p ∈ prN n [] b, y.1 < p.1 := fun p hp => by
        rcases i2 p hp with ⟨q, hq, _⟩ | ⟨q, hq, e⟩
        · cases hq
        · have := hb.lt q hq; omega
      simp only [prN]
      refine ⟨List.pairwise_cons.2 ⟨low, i1⟩, fun p hp => ?_, fun p hp => ?_, fun q hq => (by cases hq), fun q hq => ?_⟩
      · rcases List.mem_cons.1 hp with rfl | hp
        · exact .inr ⟨y, by simp, rfl⟩
        · exact (i2 p hp).imp id (fun ⟨q, h1, h2⟩ => ⟨q, List.mem_cons_of_mem _ h1, h2⟩)
      · rcases List.mem_cons.1 hp with rfl | hp
        · exact ⟨rfl, by rw [atV_mem hb y (by simp)]⟩
        · have hne : y.1 ≠ p.1 := by have := low p hp; omega
          refine ⟨(i3 p hp).1, ?_⟩
          rw [atV_ne hne]
          exact (i3 p hp).2
      · rcases List.mem_cons.1 hq with rfl | hq
        · exact ⟨_, List.mem_cons_self, rfl⟩
        · obtain ⟨p, h1, h2⟩ := i5 q hq
          exact ⟨p, List.mem_cons_of_mem _ h1, h2⟩
    | x :: a, y :: b, hn, ha, hb =>
      simp only [prN]
      by_cases h1 : x.1 < y.1
      · rw [if_pos h1]
        obtain ⟨i1, i2, i3, i4, i5⟩ := ih a (y :: b) (by simp at hn ⊢; omega) ha.tail hb
        have low : ∀ p ∈ prN n a (y :: b), x.1 < p.1 := fun p hp => by
          rcases i2 p hp with ⟨q, hq, e⟩ | ⟨q, hq, e⟩
          · have := ha.lt q hq; omega
          · rcases List.mem_cons.1 hq with rfl | hq
            · omega
            · have := hb.lt q hq; omega
        refine ⟨List.pairwise_cons.2 ⟨low, i1⟩, fun p hp => ?_, fun p hp => ?_, fun q hq => ?_, fun q hq => ?_⟩
        · rcases List.mem_cons.1 hp with rfl | hp
          · exact .inl ⟨x, by simp, rfl⟩
          · exact (i2 p hp).imp (fun ⟨q, h1, h2⟩ => ⟨q, List.mem_cons_of_mem _ h1, h2⟩) id
        · rcases List.mem_cons.1 hp with rfl | hp
          · refine ⟨by rw [atV_mem ha x (by simp)], ?_⟩
            rw [atV_not fun q hq => ?_]
            rcases List.mem_cons.1 hq with rfl | hq
            · simp only; omega
            · have := hb.lt q hq; simp only; omega
          · have hne : x.1 ≠ p.1 := by have := low p hp; omega
            refine ⟨?_, (i3 p hp).2⟩
            rw [atV_ne hne]
            exact (i3 p hp).1
        · rcases List.mem_cons.1 hq with rfl | hq
          · exact ⟨_, List.mem_cons_self, rfl⟩
          · obtain ⟨p, k1, k2⟩ := i4 q hq
            exact ⟨p, List.mem_cons_of_mem _ k1, k2⟩
        · obtain ⟨p, k1, k2⟩ := i5 q hq
          exact ⟨p, List.mem_cons_of_mem _ k1, k2⟩
      · rw [if_neg h1]
        by_cases h2 : y.1 < x.1
        · rw [if_pos h2]
          obtain ⟨i1, i2, i3, i4, i5⟩ := ih (x :: a) b (by simp at hn ⊢; omega) ha hb.tail
          have low : ∀ p ∈ prN n (x :: a) b, y.1 < p.1 := fun p hp => by
            rcases i2 p hp with ⟨q, hq, e⟩ | ⟨q, hq, e⟩
            · rcases List.mem_cons.1 hq with rfl | hq
              · omega
              · have := ha.lt q hq; omega
            · have := hb.lt q hq; omega
          refine ⟨List.pairwise_cons.2 ⟨low, i1⟩, fun p hp => ?_, fun p hp => ?_, fun q hq => ?_, fun q hq => ?_⟩
          · rcases List.mem_cons.1 hp with rfl | hp
            · exact .inr ⟨y, by simp, rfl⟩
            · exact (i2 p hp).imp id (fun ⟨q, h1, h2⟩ => ⟨q, List.mem_cons_of_mem _ h1, h2⟩)
          · rcases List.mem_cons.1 hp with rfl | hp
            · refine ⟨?_, by rw [atV_mem hb y (by simp)]⟩
              rw [atV_not fun q hq => ?_]
              rcases List.mem_cons.1 hq with rfl | hq
              · simp only; omega
              · have := ha.lt q hq; simp only; omega
            · have hne : y.1 ≠ p.1 := by have := low p hp; omega
              refine ⟨(i3 p hp).1, ?_⟩
              rw [atV_ne hne]
              exact (i3 p hp).2
          · obtain ⟨p, k1, k2⟩ := i4 q hq
            exact ⟨p, List.mem_cons_of_mem _ k1, k2⟩
          · rcases List.mem_cons.1 hq with rfl | hq
            · exact ⟨_, List.mem_cons_self, rfl⟩
            · obtain ⟨p, k1, k2⟩ := i5 q hq
              exact ⟨p, List.mem_cons_of_mem _ k1, k2⟩
        · rw [if_neg h2]
          have hxy : x.1 = y.1 := by omega
          obtain ⟨i1, i2, i3, i4, i5⟩ := ih a b (by simp at hn ⊢; omega) ha.tail hb.tail
          have low : ∀ p ∈ prN n a b, x.1 < p.1 := fun p hp => by
            rcases i2 p hp with ⟨q, hq, e⟩ | ⟨q, hq, e⟩
            · have := ha.lt q hq; omega
            · have := hb.lt q hq; omega
          refine ⟨List.pairwise_cons.2 ⟨low, i1⟩, fun p hp => ?_, fun p hp => ?_, fun q hq => ?_, fun q hq => ?_⟩
          · rcases List.mem_cons.1 hp with rfl | hp
            · exact .inl ⟨x, by simp, rfl⟩
            · exact (i2 p hp).imp (fun ⟨q, h1, h2⟩ => ⟨q, List.mem_cons_of_mem _ h1, h2⟩) (fun ⟨q, h1, h2⟩ => ⟨q, List.mem_cons_of_mem _ h1, h2⟩)
          · rcases List.mem_cons.1 hp with rfl | hp
            · refine ⟨by rw [atV_mem ha x (by simp)], ?_⟩
              simp only
              rw [hxy, atV_mem hb y (by simp)]
            · have hne : x.1 ≠ p.1 := by have := low p hp; omega
              have hne2 : y.1 ≠ p.1 := by have := low p hp; omega
              rw [atV_ne hne, atV_ne hne2]
              exact i3 p hp
          · rcases List.mem_cons.1 hq with rfl | hq
            · exact ⟨_, List.mem_cons_self, rfl⟩
            · obtain ⟨p, k1, k2⟩ := i4 q hq
              exact ⟨p, List.mem_cons_of_mem _ k1, k2⟩
          · rcases List.mem_cons.1 hq with rfl | hq
            · exact ⟨_, List.mem_cons_self, hxy⟩
            · obtain ⟨p, k1, k2⟩ := i5 q hq
              exact ⟨p, List.mem_cons_of_mem _ k1, k2⟩

/-! ### Merging by a rule -/
/-- A rule that serves: between 0 and the greater, 0 at two zeros. -/
structure Rule (tk : Int → Int → Int) : Prop where
  zero : tk 0 0 = 0
  lo : ∀ x y, 0 ≤ x → 0 ≤ y → 0 ≤ tk x y
  hi : ∀ x y, x ≤ 1048576 → y ≤ 1048576 → tk x y ≤ 1048576
theorem rule_max : Rule gmax := ⟨rfl, fun x y _ _ => by unfold gmax; split <;> omega, fun x y _ _ => by unfold gmax; split <;> omega⟩
theorem merge_mem {tk : Int → Int → Int} {a b : List D} (ha : Ok a) (hb : Ok b) {d : D} (h : d ∈ mergeV tk a b) :
    d.2 = tk (atV d.1 a) (atV d.1 b) ∧ d.2 > 0 ∧ ((∃ q ∈ a, q.1 = d.1) ∨ (∃ q ∈ b, q.1 = d.1)) := by
  obtain ⟨p, hp, he⟩ := List.mem_filterMap.1 h
  obtain ⟨_, i2, i3, _, _⟩ := pr_spec _ a b (Nat.le_refl _) ha hb
  unfold ruleF at he
  split at he
  · rename_i hpos
    cases he
    obtain ⟨e1, e2⟩ := i3 p hp
    exact ⟨by rw [e1, e2], hpos, i2 p hp⟩
  · cases he
theorem merge_sorted {tk : Int → Int → Int} {a b : List D} (ha : Ok a) (hb : Ok b) : (mergeV tk a b).Pairwise fun p q => p.1 < q.1 := by
  obtain ⟨i1, _⟩ := pr_spec _ a b (Nat.le_refl _) ha hb
  unfold mergeV
  rw [List.pairwise_filterMap]
  refine i1.imp ?_
  intro p q hpq d hd c hc
  unfold ruleF at hd hc
  split at hd <;> split at hc
  · cases hd; cases hc; exact hpq
  all_goals first | (cases hc; done) | (cases hd; done)
theorem merge_ok {tk : Int → Int → Int} (hr : Rule tk) {a b : List D} (ha : Ok a) (hb : Ok b) : Ok (mergeV tk a b) := by
  refine ⟨fun d hd => ?_, merge_sorted ha hb⟩
  obtain ⟨h1, h2, h3⟩ := merge_mem ha hb hd
  rw [isDot_iff]
  have r1 := atV_range ha d.1
  have r2 := atV_range hb d.1
  have := hr.hi _ _ r1.2 r2.2
  rcases h3 with ⟨q, hq, e⟩ | ⟨q, hq, e⟩
  · have := isDot_iff.1 (ha.dots q hq); omega
  · have := isDot_iff.1 (hb.dots q hq); omega
theorem merge_at {tk : Int → Int → Int} (hr : Rule tk) {a b : List D} (ha : Ok a) (hb : Ok b) (dev : Int) : atV dev (mergeV tk a b) = tk (atV dev a) (atV dev b) := by
  obtain ⟨_, i2, i3, i4, i5⟩ := pr_spec _ a b (Nat.le_refl _) ha hb
  have r1 := atV_range ha dev
  have r2 := atV_range hb dev
  by_cases hin : (∃ q ∈ a, q.1 = dev) ∨ (∃ q ∈ b, q.1 = dev)
  · obtain ⟨p, hp, hpd⟩ : ∃ p ∈ prN (a.length + b.length) a b, p.1 = dev := by
      rcases hin with ⟨q, hq, rfl⟩ | ⟨q, hq, rfl⟩
      · exact i4 q hq
      · exact i5 q hq
    subst hpd
    obtain ⟨e1, e2⟩ := i3 p hp
    by_cases hpos : tk p.2.1 p.2.2 > 0
    · have hm : (p.1, tk p.2.1 p.2.2) ∈ mergeV tk a b := List.mem_filterMap.2 ⟨p, hp, if_pos hpos⟩
      rw [atV_mem (merge_ok hr ha hb) _ hm, ← e1, ← e2]
    · have h0 := hr.lo _ _ r1.1 r2.1
      rw [← e1, ← e2] at h0 ⊢
      have hz : tk p.2.1 p.2.2 = 0 := by omega
      rw [hz]
      refine atV_not fun d hd e => ?_
      obtain ⟨h1, h2, _⟩ := merge_mem ha hb hd
      rw [e, ← e1, ← e2] at h1
      omega
  · have z1 : atV dev a = 0 := atV_not fun d hd e => hin (.inl ⟨d, hd, e⟩)
    have z2 : atV dev b = 0 := atV_not fun d hd e => hin (.inr ⟨d, hd, e⟩)
    rw [z1, z2, hr.zero]
    refine atV_not fun d hd e => ?_
    obtain ⟨_, _, h3⟩ := merge_mem ha hb hd
    rw [e] at h3
    exact hin h3
theorem merge_len {tk : Int → Int → Int} (a b : List D) : (mergeV tk a b).length ≤ a.length + b.length :=
  Nat.le_trans (List.length_filterMap_le _ _) (prN_len _ a b)

/-! ### The order -/
end Go.Vec

/- OPS, 34: OpsContents, OpsKnows, OpsFields. -/
namespace Go.Ops
set_option maxRecDepth 100000
set_option linter.unusedSimpArgs false
set_option linter.unusedVariables false
open Go Go.Am Go.Proofs Go.Seat Go.Vec Go.Cdc

/-! ### OpsContents -/
/-! ### OpsKnows -/
theorem chk_split {o : OP} (h : chkOE o = 0) : stageB o = true ∧ 1 ≤ o.kd ∧ o.kd ≤ 8 ∧ kindB o = true := by
  unfold chkOE at h
  split at h
  · rename_i h1
    simp only [chkB', Bool.and_eq_true, decide_eq_true_eq] at h1
    exact ⟨h1.1.1.1, h1.1.1.2, h1.1.2, h1.2⟩
  · cases h
theorem chk_bad {o : OP} (h : chkOE o = 0 → False) : chkOE o = 170 := (chk01 o).resolve_left h
theorem kind8 {k : Int} (h1 : 1 ≤ k) (h2 : k ≤ 8) : k = 1 ∨ k = 2 ∨ k = 3 ∨ k = 4 ∨ k = 5 ∨ k = 6 ∨ k = 7 ∨ k = 8 := by omega

/-! ### OpsFields -/
theorem part_range {k : Int} (h1 : 1 ≤ k) (h8 : k ≤ 8) : 1 ≤ partOf k ∧ partOf k ≤ 4 := by unfold partOf; grind

/-- OpsFields. -/
theorem spec_fields (o : OP) (w : UInt8) (ko : Okp o ∧ Sz o) (kw : True) : CallC P G 9 [op o, u8 w] [] (.ret (bool true)) [] := by
  have fo := few_c o ko.2
  cases ho : fewO o with
  | false => rw [ho] at fo; exact fl_f o w sane_c fo trivial
  | true =>
    rw [ho] at fo
    have q := fewO_few ho
    have hcx := fewO_cx ho
    have hc := Ops.check_c o (ko.1.okn (by decide) q)
    rcases chk01 o with h0 | h0
    case inr => rw [h0] at hc; exact fl_c o w sane_c fo hc trivial
    rw [h0] at hc
    obtain ⟨hs, k1, k8, hk⟩ := chk_split h0
    have bad : ∀ x : OP, x.cx.length ≤ 1000000000 → I64 x.kd → I64 x.f3 → (chkOE x = 0 → False) → CallC P G 12 [op x] [] (.ret (int 170)) [] := fun x h1 h2 h3 h4 => by
      have := Ops.check_c x ⟨h1, h2, h3⟩
      rw [chk_bad h4] at this
      exact this
    have hs' := hs
    have hk' := hk
    simp only [stageB, Bool.and_eq_true, decide_eq_true_eq, Bool.not_eq_true'] at hs'
    simp only [kindB, Bool.and_eq_true, decide_eq_true_eq] at hk'
    have hr := hk'.2
    have hm : ∃ n : Nat, n < 8 ∧ Int.tmod (w.toNat : Int) 8 = n := ⟨w.toNat % 8, by omega, by rw [Int.tmod_eq_emod_of_nonneg (by omega)]; omega⟩
    obtain ⟨n, hn, hw⟩ := hm
    have hn8 : n = 0 ∨ n = 1 ∨ n = 2 ∨ n = 3 ∨ n = 4 ∨ n = 5 ∨ n = 6 ∨ n = 7 := by omega
    rcases hn8 with e | e | e | e | e | e | e | e <;> subst e
    · have pr := part_range k1 k8
      have hp := hk'.1.1.1
      have ht : Int.tmod o.pk 4 = o.pk % 4 := Int.tmod_eq_emod_of_nonneg (by omega)
      refine fl_0 o w hw sane_c fo hc (by omega) (by omega) (bad _ (by show o.cx.length ≤ _; omega) ko.1.kd ko.1.f3 fun hx => ?_) trivial
      have := (chk_split hx).2.2.2
      simp only [kindB, Bool.and_eq_true, decide_eq_true_eq] at this
      have h2 : Int.tmod o.pk 4 + 1 = partOf o.kd := this.1.1.1
      omega
    · refine fl_1 o w hw sane_c fo hc (bad _ (by show o.cx.length ≤ _; omega) ko.1.kd ko.1.f3 fun hx => ?_) trivial
      have := (chk_split hx).1
      simp only [stageB, Bool.and_eq_true, decide_eq_true_eq] at this
      have h2 : (0 : Int) ≥ 1 := this.1.1.1.2
      omega
    · refine fl_2 o w hw sane_c fo hc (bad _ (by show o.cx.length ≤ _; omega) ko.1.kd ko.1.f3 fun hx => ?_) trivial
      have := (chk_split hx).1
      simp only [stageB, isDotB, Bool.and_eq_true, decide_eq_true_eq] at this
      have h2 : (1048577 : Int) ≤ 1048576 := this.1.1.1.1.2
      omega
    · by_cases k3 : o.kd = 3 ∨ o.kd = 4
      · exact fl_3a o w hw sane_c fo hc k3 (by simp)
      · refine fl_3b o w hw sane_c fo hc (fun h => k3 (.inl h)) (fun h => k3 (.inr h)) (bad _ (by show o.cx.length ≤ _; omega) ko.1.kd ko.1.f3 fun hx => ?_) trivial
        have := (chk_split hx).2.2.2
        simp only [kindB, Bool.and_eq_true, decide_eq_true_eq] at this
        have h2 := congrArg OP.ky this.2
        rcases kind8 k1 k8 with e | e | e | e | e | e | e | e
        case inr.inr.inl => exact k3 (.inl e)
        case inr.inr.inr.inl => exact k3 (.inr e)
        all_goals
          rw [show ({ o with ky := ByteArray.mk #[107] } : OP).kd = o.kd from rfl, e] at h2
          exact absurd (show (ByteArray.mk #[107]).size = (ByteArray.mk #[]).size from congrArg ByteArray.size h2) (by decide)
    · by_cases k3 : o.kd = 8
      · exact fl_4a o w hw sane_c fo hc k3 trivial
      · refine fl_4b o w hw sane_c fo hc k3 (bad _ (by show o.cx.length ≤ _; omega) ko.1.kd ko.1.f3 fun hx => ?_) trivial
        have := (chk_split hx).2.2.2
        simp only [kindB, Bool.and_eq_true, decide_eq_true_eq] at this
        have h2 := congrArg OP.t1 this.2
        rcases kind8 k1 k8 with e | e | e | e | e | e | e | e
        case inr.inr.inr.inr.inr.inr.inr => exact k3 e
        all_goals
          rw [show ({ o with t1 := 1, t2 := 1, t3 := 0 } : OP).kd = o.kd from rfl, e] at h2
          exact absurd (show (1 : Int) = 0 from h2) (by decide)
    · by_cases k3 : o.kd = 8
      · exact fl_5a o w hw sane_c fo hc k3 trivial
      · refine fl_5b o w hw sane_c fo hc k3 (bad _ (by show o.cx.length ≤ _; omega) ko.1.kd ko.1.f3 fun hx => ?_) trivial
        have := (chk_split hx).2.2.2
        simp only [kindB, Bool.and_eq_true, decide_eq_true_eq] at this
        have h2 := congrArg OP.on this.2
        rcases kind8 k1 k8 with e | e | e | e | e | e | e | e
        case inr.inr.inr.inr.inr.inr.inr => exact k3 e
        all_goals
          rw [show ({ o with on := true } : OP).kd = o.kd from rfl, e] at h2
          exact absurd (show true = false from h2) (by decide)
    · by_cases k3 : o.kd = 5 ∨ o.kd = 7 ∨ o.kd = 8
      · exact fl_6a o w hw sane_c fo hc k3 (by simp)
      · refine fl_6b o w hw sane_c fo hc (fun h => k3 (.inl h)) (fun h => k3 (.inr (.inl h))) (fun h => k3 (.inr (.inr h))) (bad _ (by show o.cx.length ≤ _; omega) ko.1.kd ko.1.f3 fun hx => ?_) trivial
        have := (chk_split hx).2.2.2
        simp only [kindB, Bool.and_eq_true, decide_eq_true_eq] at this
        have h2 := congrArg OP.n this.2
        rcases kind8 k1 k8 with e | e | e | e | e | e | e | e
        case inr.inr.inr.inr.inl => exact k3 (.inl e)
        case inr.inr.inr.inr.inr.inr.inl => exact k3 (.inr (.inl e))
        case inr.inr.inr.inr.inr.inr.inr => exact k3 (.inr (.inr e))
        all_goals
          rw [show ({ o with n := 1 } : OP).kd = o.kd from rfl, e] at h2
          exact absurd (show (1 : Int) = 0 from h2) (by decide)
    · have hwc := with_c o.cx o.dv o.sq (by omega)
      have hv : okB o.cx = true := hs'.1.2
      have hd : isDotB (o.dv, o.sq) = true := hs'.1.1.1.1
      have hd1 : okB [(o.dv, o.sq)] = true := by
        have := dot1 (o.dv, o.sq)
        rw [if_pos hd] at this
        unfold checkE at this
        split at this
        · assumption
        · cases this
      have he : check2E o.cx [(o.dv, o.sq)] = 0 := by
        unfold check2E checkE
        rw [if_pos hv, if_pos rfl, if_pos hd1]
      have hE : joinE o.cx [(o.dv, o.sq)] = mergeV gmax o.cx [(o.dv, o.sq)] := by unfold joinE; rw [if_pos he]
      rw [he, hE] at hwc
      have hlen := merge_len (tk := gmax) o.cx [(o.dv, o.sq)]
      have hsz : [(o.dv, o.sq)].length = 1 := rfl
      have at1 : Vec.atV o.dv (mergeV gmax o.cx [(o.dv, o.sq)]) = gmax (Vec.atV o.dv o.cx) o.sq := by
        rw [merge_at rule_max (ok_iff.1 hv) (ok_iff.1 hd1)]
        simp [Vec.atV]
      refine fl_7 o w hw sane_c fo hc _ hwc (bad _ (by show (mergeV gmax o.cx [(o.dv, o.sq)]).length ≤ _; omega) ko.1.kd ko.1.f3 fun hx => ?_) trivial
      have := (chk_split hx).1
      simp only [stageB, Bool.and_eq_true, decide_eq_true_eq, Bool.not_eq_true'] at this
      have h2 := this.2
      simp only [coversB, at1, Bool.and_eq_false_iff, decide_eq_false_iff_not] at h2
      have h3 : 1 ≤ o.sq := (isDot_iff.1 hd).2.2.1
      unfold gmax at h2
      split at h2 <;> omega

end Go.Ops

/- OPS, 29: OpsOrder. -/
namespace Go.Ops
set_option maxRecDepth 100000
set_option linter.unusedSimpArgs false
set_option linter.unusedVariables false
open Go Go.Am Go.Proofs Go.Seat Go.Vec Go.Cdc

end Go.Ops

/- OPS, 30: OpsOrder holds. -/
namespace Go.Ops
set_option maxRecDepth 100000
set_option linter.unusedSimpArgs false
set_option linter.unusedVariables false
open Go Go.Am Go.Proofs Go.Seat Go.Vec Go.Cdc

end Go.Ops
