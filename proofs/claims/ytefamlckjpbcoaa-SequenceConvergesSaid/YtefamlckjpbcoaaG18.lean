import Derived.Test.YtefamlckjpbcoaaG17
import Derived.KernelRfl
/- SEQUENCE, 59: the law Converges, walked: a round. -/
namespace Go.Sq
set_option maxRecDepth 100000
set_option linter.unusedSimpArgs false
set_option linter.unusedVariables false
open Go Go.Am Go.Proofs Go.Seat

theorem oLP_a (ps : List Nat) (want l arr : List CE) (n g m0 : Nat) (d : CE) (late : List ID) (g2 : Nat) (at0 : Nat) (x : CE) (l2 : List CE) (hl : m0 ≤ 40) (h0 : 0 < m0) (ha : at0 < m0) (hm : m0 ≤ arr.length) (har : arr.length ≤ 40) (t : Nat) (hn : n < ps.length) (ht : ps[n]? = some t) (hnn : n ≤ 40) (ht2 : t < 256) (hx : arr[0 + at0]? = some x) (hll : l.length ≤ 40) (hlen : l2.length = l.length + 1) (hIn : RunL P G none 0 (loopAt P 6 1) (inL ps want l arr n g m0 d late g2 (t % m0) 0) (.exit 2) (inLX ps want l arr n g m0 d late g2 at0)) (hI : CallC P G 18 [ces l, cel ⟨x.dv, x.sq, x.at', x.ad, x.as', x.aa, x.tm, x.vl, false⟩] [] (.ret (.tup [ces l2, int 0])) []) (hg : x.gn = false) (ex : AEx) (s' : St) (h : ((at0 - 0 + List.length (List.take (m0 - (at0 + 1)) (List.drop (0 + (at0 + 1)) (encs arr))) ≤ List.length (encs arr)) ∧ ((List.length (List.take (m0 - (at0 + 1)) (List.drop (0 + (at0 + 1)) (encs arr))) = m0 - (at0 + 1)) ∧ RunL P G none 0 (loopAt P 6 0) (St.mk (slots 163 [(1, AV.sl 1 false (List.map pk1 ps)), (5, AV.sl 9 false (encs want)), (7, AV.sl 9 false (encs l2)), (8, AV.own 2 g2 0 (List.length late)), (9, AV.own 0 (g + 1) 0 (at0 - 0 + List.length (List.take (m0 - (at0 + 1)) (List.drop (0 + (at0 + 1)) arr)))), (10, int (↑(n + 1) : Int))]) [AObj.arr (g + 1) 9 false (encs (List.take (at0 - 0) arr ++ (List.take (m0 - (at0 + 1)) (List.drop (0 + (at0 + 1)) arr) ++ List.drop (at0 - 0 + List.length (List.take (m0 - (at0 + 1)) (List.drop (0 + (at0 + 1)) arr))) arr))), AObj.box [int (CE.dv d), int (CE.sq d), int (CE.at' d), int (CE.ad d), int (CE.as' d), int (CE.aa d), int (CE.tm d), str (CE.vl d), Am.bool (CE.gn d)], AObj.arr g2 3 false (idcs late)] []) ex s'))) : RunL P G none 0 (loopAt P 6 0) (ouL ps want l arr n g m0 d late g2) ex s' := by
  have hz0 : g = g := (rfl)
  obtain ⟨o3, h⟩ := h
  obtain ⟨o4, h⟩ := h
  exact loop_next [kp hz0, kt (show decide ((↑m0 : Int) > (0 : Int)) = true from (decide_eq_true (by omega))), kv 53 (show Am.Sub (int (↑(List.length (List.map pk1 ps)) : Int)) (int (↑(List.length ps) : Int)) from (Sub.of_eq (by simp only [Int.toNat_natCast, Go.Sq.pks_length]))), kt (show decide ((↑n : Int) < (↑(List.length ps) : Int)) = true from (decide_eq_true (by omega))), ko (Orc.elem (pk1 t)), kp (show (0 : Int) ≤ (↑n : Int) ∧ (List.map pk1 ps)[Int.toNat (↑n : Int)]? = some (pk1 t) from (el_nat ht)), kv 59 (show Am.Sub (int (IntKind.wrap IntKind.i64 (↑t : Int))) (int (↑t : Int)) from (Sub.of_wrap (by omega) (by omega) rfl)), kp hz0, kp (show (↑m0 : Int) ≠ (0 : Int) from (by omega)), kp hz0, kl [46, 47, 48, 51, 52, 53, 54, 55, 56, 57, 58, 59, 60, 61, 62, 63] 3 (@hIn ), kf (Eq.refl false), ko (Orc.elem (enc x)), kp hz0, kp (show (0 : Int) ≤ (↑at0 : Int) ∧ (↑at0 : Int) < (↑m0 : Int) from (by omega)), kp hz0, kp (show (encs arr)[0 + Int.toNat (↑at0 : Int)]? = some (enc x) from (el_get hx)), kp hz0, kp (show (0 : Int) ≤ (0 : Int) ∧ (0 : Int) ≤ (↑at0 : Int) ∧ (↑at0 : Int) ≤ (↑m0 : Int) from (by omega)), kv 102 (show Am.Sub (int (IntKind.wrap IntKind.i64 ((↑at0 : Int) + 1))) (int (↑(at0 + 1) : Int)) from (Sub.of_wrap (by omega) (by omega) (by omega))), ko (Orc.own), kp hz0, kp (show (0 : Int) ≤ (↑(at0 + 1) : Int) ∧ (↑(at0 + 1) : Int) ≤ (↑m0 : Int) ∧ (↑m0 : Int) ≤ (↑m0 : Int) from (by omega)), kv 104 (show Am.Sub (AV.own 0 (g + 1) 0 (Int.toNat (↑at0 : Int) - 0 + List.length (List.take (Int.toNat (↑m0 : Int) - Int.toNat (↑(at0 + 1) : Int)) (List.drop (0 + Int.toNat (↑(at0 + 1) : Int)) (encs arr))))) (AV.own 0 (g + 1) 0 (at0 - 0 + List.length (List.take (m0 - (at0 + 1)) (List.drop (0 + (at0 + 1)) arr)))) from (Sub.of_eq (by simp only [Go.Sq.encs_drop, Go.Sq.encs_take, Go.Sq.encs_length, Int.toNat_natCast]))), ko (Orc.hp none (AV.lit undef) [AObj.arr (g + 1) 9 false (encs (List.take (at0 - 0) arr ++ (List.take (m0 - (at0 + 1)) (List.drop (0 + (at0 + 1)) arr) ++ List.drop (at0 - 0 + List.length (List.take (m0 - (at0 + 1)) (List.drop (0 + (at0 + 1)) arr))) arr))), AObj.box [int (CE.dv d), int (CE.sq d), int (CE.at' d), int (CE.ad d), int (CE.as' d), int (CE.aa d), int (CE.tm d), str (CE.vl d), Am.bool (CE.gn d)], AObj.arr g2 3 false (idcs late), AObj.box [int (CE.dv x), int (CE.sq x), int (CE.at' x), int (CE.ad x), int (CE.as' x), int (CE.aa x), int (CE.tm x), str (CE.vl x), Am.bool false]]), kp hz0, kp o3, kp hz0, kp o4, kp (show Am.Sub (AV.lit undef) (AV.lit undef) from (Sub.refl _)), kp (show Am.HSub [AObj.arr (g + 1) 9 false (List.take (Int.toNat (↑at0 : Int) - 0) (encs arr) ++ (List.take (Int.toNat (↑m0 : Int) - Int.toNat (↑(at0 + 1) : Int)) (List.drop (0 + Int.toNat (↑(at0 + 1) : Int)) (encs arr)) ++ List.drop (Int.toNat (↑at0 : Int) - 0 + List.length (List.take (Int.toNat (↑m0 : Int) - Int.toNat (↑(at0 + 1) : Int)) (List.drop (0 + Int.toNat (↑(at0 + 1) : Int)) (encs arr)))) (encs arr))), AObj.box [int (CE.dv d), int (CE.sq d), int (CE.at' d), int (CE.ad d), int (CE.as' d), int (CE.aa d), int (CE.tm d), str (CE.vl d), Am.bool (CE.gn d)], AObj.arr g2 3 false (idcs late), AObj.box [int (CE.dv x), int (CE.sq x), int (CE.at' x), int (CE.ad x), int (CE.as' x), int (CE.aa x), int (CE.tm x), str (CE.vl x), Am.bool false]] [AObj.arr (g + 1) 9 false (encs (List.take (at0 - 0) arr ++ (List.take (m0 - (at0 + 1)) (List.drop (0 + (at0 + 1)) arr) ++ List.drop (at0 - 0 + List.length (List.take (m0 - (at0 + 1)) (List.drop (0 + (at0 + 1)) arr))) arr))), AObj.box [int (CE.dv d), int (CE.sq d), int (CE.at' d), int (CE.ad d), int (CE.as' d), int (CE.aa d), int (CE.tm d), str (CE.vl d), Am.bool (CE.gn d)], AObj.arr g2 3 false (idcs late), AObj.box [int (CE.dv x), int (CE.sq x), int (CE.at' x), int (CE.ad x), int (CE.as' x), int (CE.aa x), int (CE.tm x), str (CE.vl x), Am.bool false]] from (⟨.inl (by simp only [Go.Sq.encs_drop, Go.Sq.encs_take, Go.Sq.encs_append, Go.Sq.encs_length, Int.toNat_natCast]), .inl rfl, .inl rfl, .inl rfl, trivial⟩)), kc [] (@hI ), kf (Eq.refl false), kv 118 (show Am.Sub (int (↑(List.length (encs l2)) : Int)) (int (↑(List.length l2) : Int)) from (Sub.of_eq (by simp only [Go.Sq.encs_length, Int.toNat_natCast]))), kv 120 (show Am.Sub (int (↑(List.length (encs l)) : Int)) (int (↑(List.length l) : Int)) from (Sub.of_eq (by simp only [Go.Sq.encs_length, Int.toNat_natCast]))), kv 121 (show Am.Sub (int (IntKind.wrap IntKind.i64 ((↑(List.length l) : Int) + 1))) (int (↑(List.length l + 1) : Int)) from (Sub.of_wrap (by omega) (by omega) (by omega))), kf (show ((↑(List.length l2) : Int) != (↑(List.length l + 1) : Int)) = false from (congrArg Bool.not (decide_eq_true (by omega)))), kt (show (!CE.gn x) = true from (congrArg Bool.not (hg))), kv 50 (show Am.Sub (int (IntKind.wrap IntKind.i64 ((↑n : Int) + 1))) (int (↑(n + 1) : Int)) from (Sub.of_wrap (by omega) (by omega) (by omega))), kp (show ∀ (x : List AV), x ∈ encs (List.take (at0 - 0) arr ++ (List.take (m0 - (at0 + 1)) (List.drop (0 + (at0 + 1)) arr) ++ List.drop (at0 - 0 + List.length (List.take (m0 - (at0 + 1)) (List.drop (0 + (at0 + 1)) arr))) arr)) → AV.idsInL [] x = true from (Go.Sq.encs_ids _)), kp (show ∀ (x : List AV), x ∈ idcs late → AV.idsInL [] x = true from (Go.Sq.idcs_ids _))] (others 163 [1, 5, 7, 8, 9, 10]) 3 h (by kernel_rfl)

theorem oLP_e (ps : List Nat) (want l arr : List CE) (n g m0 : Nat) (d : CE) (late : List ID) (g2 : Nat) (at0 : Nat) (x : CE) (l2 : List CE) (hl : m0 ≤ 40) (h0 : 0 < m0) (ha : at0 < m0) (hm : m0 ≤ arr.length) (har : arr.length ≤ 40) (t : Nat) (hn : n < ps.length) (ht : ps[n]? = some t) (hnn : n ≤ 40) (ht2 : t < 256) (hx : arr[0 + at0]? = some x) (hll : l.length ≤ 40) (hlen : l2.length = l.length + 1) (hIn : RunL P G none 0 (loopAt P 6 1) (inL ps want l arr n g m0 d late g2 (t % m0) 0) (.exit 2) (inLX ps want l arr n g m0 d late g2 at0)) (hI : CallC P G 18 [ces l, cel ⟨x.dv, x.sq, x.at', x.ad, x.as', x.aa, x.tm, x.vl, false⟩] [] (.ret (.tup [ces l2, int 0])) []) (hg : x.gn = true) (he : Int.tmod (n : Int) 2 = 0) (hla : late.length ≤ 40) (ex : AEx) (s' : St) (h : ((at0 - 0 + List.length (List.take (m0 - (at0 + 1)) (List.drop (0 + (at0 + 1)) (encs arr))) ≤ List.length (encs arr)) ∧ ((List.length (List.take (m0 - (at0 + 1)) (List.drop (0 + (at0 + 1)) (encs arr))) = m0 - (at0 + 1)) ∧ RunL P G none 0 (loopAt P 6 0) (St.mk (slots 163 [(1, AV.sl 1 false (List.map pk1 ps)), (5, AV.sl 9 false (encs want)), (7, AV.sl 9 false (encs l2)), (8, AV.own 2 (g2 + 1) 0 (List.length (late ++ [(CE.dv x, CE.sq x, CE.at' x)]))), (9, AV.own 0 (g + 1) 0 (at0 - 0 + List.length (List.take (m0 - (at0 + 1)) (List.drop (0 + (at0 + 1)) arr)))), (10, int (↑(n + 1) : Int))]) [AObj.arr (g + 1) 9 false (encs (List.take (at0 - 0) arr ++ (List.take (m0 - (at0 + 1)) (List.drop (0 + (at0 + 1)) arr) ++ List.drop (at0 - 0 + List.length (List.take (m0 - (at0 + 1)) (List.drop (0 + (at0 + 1)) arr))) arr))), AObj.box [int (CE.dv d), int (CE.sq d), int (CE.at' d), int (CE.ad d), int (CE.as' d), int (CE.aa d), int (CE.tm d), str (CE.vl d), Am.bool (CE.gn d)], AObj.arr (g2 + 1) 3 false (idcs (late ++ [(CE.dv x, CE.sq x, CE.at' x)]))] []) ex s'))) : RunL P G none 0 (loopAt P 6 0) (ouL ps want l arr n g m0 d late g2) ex s' := by
  have hz0 : g = g := (rfl)
  obtain ⟨o3, h⟩ := h
  obtain ⟨o4, h⟩ := h
  exact loop_next [kp hz0, kt (show decide ((↑m0 : Int) > (0 : Int)) = true from (decide_eq_true (by omega))), kv 53 (show Am.Sub (int (↑(List.length (List.map pk1 ps)) : Int)) (int (↑(List.length ps) : Int)) from (Sub.of_eq (by simp only [Int.toNat_natCast, Go.Sq.pks_length]))), kt (show decide ((↑n : Int) < (↑(List.length ps) : Int)) = true from (decide_eq_true (by omega))), ko (Orc.elem (pk1 t)), kp (show (0 : Int) ≤ (↑n : Int) ∧ (List.map pk1 ps)[Int.toNat (↑n : Int)]? = some (pk1 t) from (el_nat ht)), kv 59 (show Am.Sub (int (IntKind.wrap IntKind.i64 (↑t : Int))) (int (↑t : Int)) from (Sub.of_wrap (by omega) (by omega) rfl)), kp hz0, kp (show (↑m0 : Int) ≠ (0 : Int) from (by omega)), kp hz0, kl [46, 47, 48, 51, 52, 53, 54, 55, 56, 57, 58, 59, 60, 61, 62, 63] 3 (@hIn ), kf (Eq.refl false), ko (Orc.elem (enc x)), kp hz0, kp (show (0 : Int) ≤ (↑at0 : Int) ∧ (↑at0 : Int) < (↑m0 : Int) from (by omega)), kp hz0, kp (show (encs arr)[0 + Int.toNat (↑at0 : Int)]? = some (enc x) from (el_get hx)), kp hz0, kp (show (0 : Int) ≤ (0 : Int) ∧ (0 : Int) ≤ (↑at0 : Int) ∧ (↑at0 : Int) ≤ (↑m0 : Int) from (by omega)), kv 102 (show Am.Sub (int (IntKind.wrap IntKind.i64 ((↑at0 : Int) + 1))) (int (↑(at0 + 1) : Int)) from (Sub.of_wrap (by omega) (by omega) (by omega))), ko (Orc.own), kp hz0, kp (show (0 : Int) ≤ (↑(at0 + 1) : Int) ∧ (↑(at0 + 1) : Int) ≤ (↑m0 : Int) ∧ (↑m0 : Int) ≤ (↑m0 : Int) from (by omega)), kv 104 (show Am.Sub (AV.own 0 (g + 1) 0 (Int.toNat (↑at0 : Int) - 0 + List.length (List.take (Int.toNat (↑m0 : Int) - Int.toNat (↑(at0 + 1) : Int)) (List.drop (0 + Int.toNat (↑(at0 + 1) : Int)) (encs arr))))) (AV.own 0 (g + 1) 0 (at0 - 0 + List.length (List.take (m0 - (at0 + 1)) (List.drop (0 + (at0 + 1)) arr)))) from (Sub.of_eq (by simp only [Go.Sq.encs_drop, Go.Sq.encs_take, Go.Sq.encs_length, Int.toNat_natCast]))), ko (Orc.hp none (AV.lit undef) [AObj.arr (g + 1) 9 false (encs (List.take (at0 - 0) arr ++ (List.take (m0 - (at0 + 1)) (List.drop (0 + (at0 + 1)) arr) ++ List.drop (at0 - 0 + List.length (List.take (m0 - (at0 + 1)) (List.drop (0 + (at0 + 1)) arr))) arr))), AObj.box [int (CE.dv d), int (CE.sq d), int (CE.at' d), int (CE.ad d), int (CE.as' d), int (CE.aa d), int (CE.tm d), str (CE.vl d), Am.bool (CE.gn d)], AObj.arr g2 3 false (idcs late), AObj.box [int (CE.dv x), int (CE.sq x), int (CE.at' x), int (CE.ad x), int (CE.as' x), int (CE.aa x), int (CE.tm x), str (CE.vl x), Am.bool false]]), kp hz0, kp o3, kp hz0, kp o4, kp (show Am.Sub (AV.lit undef) (AV.lit undef) from (Sub.refl _)), kp (show Am.HSub [AObj.arr (g + 1) 9 false (List.take (Int.toNat (↑at0 : Int) - 0) (encs arr) ++ (List.take (Int.toNat (↑m0 : Int) - Int.toNat (↑(at0 + 1) : Int)) (List.drop (0 + Int.toNat (↑(at0 + 1) : Int)) (encs arr)) ++ List.drop (Int.toNat (↑at0 : Int) - 0 + List.length (List.take (Int.toNat (↑m0 : Int) - Int.toNat (↑(at0 + 1) : Int)) (List.drop (0 + Int.toNat (↑(at0 + 1) : Int)) (encs arr)))) (encs arr))), AObj.box [int (CE.dv d), int (CE.sq d), int (CE.at' d), int (CE.ad d), int (CE.as' d), int (CE.aa d), int (CE.tm d), str (CE.vl d), Am.bool (CE.gn d)], AObj.arr g2 3 false (idcs late), AObj.box [int (CE.dv x), int (CE.sq x), int (CE.at' x), int (CE.ad x), int (CE.as' x), int (CE.aa x), int (CE.tm x), str (CE.vl x), Am.bool false]] [AObj.arr (g + 1) 9 false (encs (List.take (at0 - 0) arr ++ (List.take (m0 - (at0 + 1)) (List.drop (0 + (at0 + 1)) arr) ++ List.drop (at0 - 0 + List.length (List.take (m0 - (at0 + 1)) (List.drop (0 + (at0 + 1)) arr))) arr))), AObj.box [int (CE.dv d), int (CE.sq d), int (CE.at' d), int (CE.ad d), int (CE.as' d), int (CE.aa d), int (CE.tm d), str (CE.vl d), Am.bool (CE.gn d)], AObj.arr g2 3 false (idcs late), AObj.box [int (CE.dv x), int (CE.sq x), int (CE.at' x), int (CE.ad x), int (CE.as' x), int (CE.aa x), int (CE.tm x), str (CE.vl x), Am.bool false]] from (⟨.inl (by simp only [Go.Sq.encs_drop, Go.Sq.encs_take, Go.Sq.encs_append, Go.Sq.encs_length, Int.toNat_natCast]), .inl rfl, .inl rfl, .inl rfl, trivial⟩)), kc [] (@hI ), kf (Eq.refl false), kv 118 (show Am.Sub (int (↑(List.length (encs l2)) : Int)) (int (↑(List.length l2) : Int)) from (Sub.of_eq (by simp only [Go.Sq.encs_length, Int.toNat_natCast]))), kv 120 (show Am.Sub (int (↑(List.length (encs l)) : Int)) (int (↑(List.length l) : Int)) from (Sub.of_eq (by simp only [Go.Sq.encs_length, Int.toNat_natCast]))), kv 121 (show Am.Sub (int (IntKind.wrap IntKind.i64 ((↑(List.length l) : Int) + 1))) (int (↑(List.length l + 1) : Int)) from (Sub.of_wrap (by omega) (by omega) (by omega))), kf (show ((↑(List.length l2) : Int) != (↑(List.length l + 1) : Int)) = false from (congrArg Bool.not (decide_eq_true (by omega)))), kf (show (!CE.gn x) = false from (congrArg Bool.not (hg))), kp (show (2 : Int) ≠ (0 : Int) from (by omega)), kt (show (Int.tmod (↑n : Int) 2 == 0) = true from (decide_eq_true (by omega))), ko (Orc.hp (some 134) (AV.own 2 (g2 + 1) 0 (List.length (late ++ [(CE.dv x, CE.sq x, CE.at' x)]))) [AObj.arr (g + 1) 9 false (encs (List.take (at0 - 0) arr ++ (List.take (m0 - (at0 + 1)) (List.drop (0 + (at0 + 1)) arr) ++ List.drop (at0 - 0 + List.length (List.take (m0 - (at0 + 1)) (List.drop (0 + (at0 + 1)) arr))) arr))), AObj.box [int (CE.dv d), int (CE.sq d), int (CE.at' d), int (CE.ad d), int (CE.as' d), int (CE.aa d), int (CE.tm d), str (CE.vl d), Am.bool (CE.gn d)], AObj.arr (g2 + 1) 3 false (idcs (late ++ [(CE.dv x, CE.sq x, CE.at' x)])), AObj.box [int (CE.dv x), int (CE.sq x), int (CE.at' x), int (CE.ad x), int (CE.as' x), int (CE.aa x), int (CE.tm x), str (CE.vl x), Am.bool false]]), kp (show Am.Sub (AV.own 2 (g2 + 1) 0 (List.length late + 1)) (AV.own 2 (g2 + 1) 0 (List.length (late ++ [(CE.dv x, CE.sq x, CE.at' x)]))) from (Sub.of_eq (by simp [Go.Sq.encs_length, Go.Sq.pks_length, Go.Sq.idcs_length, Go.Sq.encs_ids, Go.Sq.idcs_ids]))), kp (show Am.HSub [AObj.arr (g + 1) 9 false (encs (List.take (at0 - 0) arr ++ (List.take (m0 - (at0 + 1)) (List.drop (0 + (at0 + 1)) arr) ++ List.drop (at0 - 0 + List.length (List.take (m0 - (at0 + 1)) (List.drop (0 + (at0 + 1)) arr))) arr))), AObj.box [int (CE.dv d), int (CE.sq d), int (CE.at' d), int (CE.ad d), int (CE.as' d), int (CE.aa d), int (CE.tm d), str (CE.vl d), Am.bool (CE.gn d)], AObj.arr (g2 + 1) 3 false (idcs late ++ [[int (CE.dv x), int (CE.sq x), int (CE.at' x)]]), AObj.box [int (CE.dv x), int (CE.sq x), int (CE.at' x), int (CE.ad x), int (CE.as' x), int (CE.aa x), int (CE.tm x), str (CE.vl x), Am.bool false]] [AObj.arr (g + 1) 9 false (encs (List.take (at0 - 0) arr ++ (List.take (m0 - (at0 + 1)) (List.drop (0 + (at0 + 1)) arr) ++ List.drop (at0 - 0 + List.length (List.take (m0 - (at0 + 1)) (List.drop (0 + (at0 + 1)) arr))) arr))), AObj.box [int (CE.dv d), int (CE.sq d), int (CE.at' d), int (CE.ad d), int (CE.as' d), int (CE.aa d), int (CE.tm d), str (CE.vl d), Am.bool (CE.gn d)], AObj.arr (g2 + 1) 3 false (idcs (late ++ [(CE.dv x, CE.sq x, CE.at' x)])), AObj.box [int (CE.dv x), int (CE.sq x), int (CE.at' x), int (CE.ad x), int (CE.as' x), int (CE.aa x), int (CE.tm x), str (CE.vl x), Am.bool false]] from (⟨.inl rfl, .inl rfl, .inl (by simp only [Int.toNat_natCast, Go.Sq.idcs_one, Go.Sq.idcs_append]), .inl rfl, trivial⟩)), kp (show g2 = g2 from (rfl)), kp (show List.length late = List.length (idcs late) from ((Go.Sq.idcs_length _).symm)), kp (show (List.length late + 1) * 24 ≤ 140737488355328 from (by omega)), kv 50 (show Am.Sub (int (IntKind.wrap IntKind.i64 ((↑n : Int) + 1))) (int (↑(n + 1) : Int)) from (Sub.of_wrap (by omega) (by omega) (by omega))), kp (show ∀ (x : List AV), x ∈ encs (List.take (at0 - 0) arr ++ (List.take (m0 - (at0 + 1)) (List.drop (0 + (at0 + 1)) arr) ++ List.drop (at0 - 0 + List.length (List.take (m0 - (at0 + 1)) (List.drop (0 + (at0 + 1)) arr))) arr)) → AV.idsInL [] x = true from (Go.Sq.encs_ids _)), kp (show ∀ (x_1 : List AV), x_1 ∈ idcs (late ++ [(CE.dv x, CE.sq x, CE.at' x)]) → AV.idsInL [] x_1 = true from (Go.Sq.idcs_ids _))] (others 163 [1, 5, 7, 8, 9, 10]) 3 h (by kernel_rfl)

theorem oLP_o (ps : List Nat) (want l arr : List CE) (n g m0 : Nat) (d : CE) (late : List ID) (g2 : Nat) (at0 : Nat) (x : CE) (l2 : List CE) (hl : m0 ≤ 40) (h0 : 0 < m0) (ha : at0 < m0) (hm : m0 ≤ arr.length) (har : arr.length ≤ 40) (t : Nat) (hn : n < ps.length) (ht : ps[n]? = some t) (hnn : n ≤ 40) (ht2 : t < 256) (hx : arr[0 + at0]? = some x) (hll : l.length ≤ 40) (hlen : l2.length = l.length + 1) (hIn : RunL P G none 0 (loopAt P 6 1) (inL ps want l arr n g m0 d late g2 (t % m0) 0) (.exit 2) (inLX ps want l arr n g m0 d late g2 at0)) (hI : CallC P G 18 [ces l, cel ⟨x.dv, x.sq, x.at', x.ad, x.as', x.aa, x.tm, x.vl, false⟩] [] (.ret (.tup [ces l2, int 0])) []) (l3 : List CE) (hg : x.gn = true) (he : ¬ Int.tmod (n : Int) 2 = 0) (hE : CallC P G 20 [ces l2, ida x.dv x.sq x.at'] [] (.ret (.tup [ces l3, int 0])) []) (ex : AEx) (s' : St) (h : ((at0 - 0 + List.length (List.take (m0 - (at0 + 1)) (List.drop (0 + (at0 + 1)) (encs arr))) ≤ List.length (encs arr)) ∧ ((List.length (List.take (m0 - (at0 + 1)) (List.drop (0 + (at0 + 1)) (encs arr))) = m0 - (at0 + 1)) ∧ RunL P G none 0 (loopAt P 6 0) (St.mk (slots 163 [(1, AV.sl 1 false (List.map pk1 ps)), (5, AV.sl 9 false (encs want)), (7, AV.sl 9 false (encs l3)), (8, AV.own 2 g2 0 (List.length late)), (9, AV.own 0 (g + 1) 0 (at0 - 0 + List.length (List.take (m0 - (at0 + 1)) (List.drop (0 + (at0 + 1)) arr)))), (10, int (↑(n + 1) : Int))]) [AObj.arr (g + 1) 9 false (encs (List.take (at0 - 0) arr ++ (List.take (m0 - (at0 + 1)) (List.drop (0 + (at0 + 1)) arr) ++ List.drop (at0 - 0 + List.length (List.take (m0 - (at0 + 1)) (List.drop (0 + (at0 + 1)) arr))) arr))), AObj.box [int (CE.dv d), int (CE.sq d), int (CE.at' d), int (CE.ad d), int (CE.as' d), int (CE.aa d), int (CE.tm d), str (CE.vl d), Am.bool (CE.gn d)], AObj.arr g2 3 false (idcs late)] []) ex s'))) : RunL P G none 0 (loopAt P 6 0) (ouL ps want l arr n g m0 d late g2) ex s' := by
  have hz0 : g = g := (rfl)
  obtain ⟨o3, h⟩ := h
  obtain ⟨o4, h⟩ := h
  exact loop_next [kp hz0, kt (show decide ((↑m0 : Int) > (0 : Int)) = true from (decide_eq_true (by omega))), kv 53 (show Am.Sub (int (↑(List.length (List.map pk1 ps)) : Int)) (int (↑(List.length ps) : Int)) from (Sub.of_eq (by simp only [Int.toNat_natCast, Go.Sq.pks_length]))), kt (show decide ((↑n : Int) < (↑(List.length ps) : Int)) = true from (decide_eq_true (by omega))), ko (Orc.elem (pk1 t)), kp (show (0 : Int) ≤ (↑n : Int) ∧ (List.map pk1 ps)[Int.toNat (↑n : Int)]? = some (pk1 t) from (el_nat ht)), kv 59 (show Am.Sub (int (IntKind.wrap IntKind.i64 (↑t : Int))) (int (↑t : Int)) from (Sub.of_wrap (by omega) (by omega) rfl)), kp hz0, kp (show (↑m0 : Int) ≠ (0 : Int) from (by omega)), kp hz0, kl [46, 47, 48, 51, 52, 53, 54, 55, 56, 57, 58, 59, 60, 61, 62, 63] 3 (@hIn ), kf (Eq.refl false), ko (Orc.elem (enc x)), kp hz0, kp (show (0 : Int) ≤ (↑at0 : Int) ∧ (↑at0 : Int) < (↑m0 : Int) from (by omega)), kp hz0, kp (show (encs arr)[0 + Int.toNat (↑at0 : Int)]? = some (enc x) from (el_get hx)), kp hz0, kp (show (0 : Int) ≤ (0 : Int) ∧ (0 : Int) ≤ (↑at0 : Int) ∧ (↑at0 : Int) ≤ (↑m0 : Int) from (by omega)), kv 102 (show Am.Sub (int (IntKind.wrap IntKind.i64 ((↑at0 : Int) + 1))) (int (↑(at0 + 1) : Int)) from (Sub.of_wrap (by omega) (by omega) (by omega))), ko (Orc.own), kp hz0, kp (show (0 : Int) ≤ (↑(at0 + 1) : Int) ∧ (↑(at0 + 1) : Int) ≤ (↑m0 : Int) ∧ (↑m0 : Int) ≤ (↑m0 : Int) from (by omega)), kv 104 (show Am.Sub (AV.own 0 (g + 1) 0 (Int.toNat (↑at0 : Int) - 0 + List.length (List.take (Int.toNat (↑m0 : Int) - Int.toNat (↑(at0 + 1) : Int)) (List.drop (0 + Int.toNat (↑(at0 + 1) : Int)) (encs arr))))) (AV.own 0 (g + 1) 0 (at0 - 0 + List.length (List.take (m0 - (at0 + 1)) (List.drop (0 + (at0 + 1)) arr)))) from (Sub.of_eq (by simp only [Go.Sq.encs_drop, Go.Sq.encs_take, Go.Sq.encs_length, Int.toNat_natCast]))), ko (Orc.hp none (AV.lit undef) [AObj.arr (g + 1) 9 false (encs (List.take (at0 - 0) arr ++ (List.take (m0 - (at0 + 1)) (List.drop (0 + (at0 + 1)) arr) ++ List.drop (at0 - 0 + List.length (List.take (m0 - (at0 + 1)) (List.drop (0 + (at0 + 1)) arr))) arr))), AObj.box [int (CE.dv d), int (CE.sq d), int (CE.at' d), int (CE.ad d), int (CE.as' d), int (CE.aa d), int (CE.tm d), str (CE.vl d), Am.bool (CE.gn d)], AObj.arr g2 3 false (idcs late), AObj.box [int (CE.dv x), int (CE.sq x), int (CE.at' x), int (CE.ad x), int (CE.as' x), int (CE.aa x), int (CE.tm x), str (CE.vl x), Am.bool false]]), kp hz0, kp o3, kp hz0, kp o4, kp (show Am.Sub (AV.lit undef) (AV.lit undef) from (Sub.refl _)), kp (show Am.HSub [AObj.arr (g + 1) 9 false (List.take (Int.toNat (↑at0 : Int) - 0) (encs arr) ++ (List.take (Int.toNat (↑m0 : Int) - Int.toNat (↑(at0 + 1) : Int)) (List.drop (0 + Int.toNat (↑(at0 + 1) : Int)) (encs arr)) ++ List.drop (Int.toNat (↑at0 : Int) - 0 + List.length (List.take (Int.toNat (↑m0 : Int) - Int.toNat (↑(at0 + 1) : Int)) (List.drop (0 + Int.toNat (↑(at0 + 1) : Int)) (encs arr)))) (encs arr))), AObj.box [int (CE.dv d), int (CE.sq d), int (CE.at' d), int (CE.ad d), int (CE.as' d), int (CE.aa d), int (CE.tm d), str (CE.vl d), Am.bool (CE.gn d)], AObj.arr g2 3 false (idcs late), AObj.box [int (CE.dv x), int (CE.sq x), int (CE.at' x), int (CE.ad x), int (CE.as' x), int (CE.aa x), int (CE.tm x), str (CE.vl x), Am.bool false]] [AObj.arr (g + 1) 9 false (encs (List.take (at0 - 0) arr ++ (List.take (m0 - (at0 + 1)) (List.drop (0 + (at0 + 1)) arr) ++ List.drop (at0 - 0 + List.length (List.take (m0 - (at0 + 1)) (List.drop (0 + (at0 + 1)) arr))) arr))), AObj.box [int (CE.dv d), int (CE.sq d), int (CE.at' d), int (CE.ad d), int (CE.as' d), int (CE.aa d), int (CE.tm d), str (CE.vl d), Am.bool (CE.gn d)], AObj.arr g2 3 false (idcs late), AObj.box [int (CE.dv x), int (CE.sq x), int (CE.at' x), int (CE.ad x), int (CE.as' x), int (CE.aa x), int (CE.tm x), str (CE.vl x), Am.bool false]] from (⟨.inl (by simp only [Go.Sq.encs_drop, Go.Sq.encs_take, Go.Sq.encs_append, Go.Sq.encs_length, Int.toNat_natCast]), .inl rfl, .inl rfl, .inl rfl, trivial⟩)), kc [] (@hI ), kf (Eq.refl false), kv 118 (show Am.Sub (int (↑(List.length (encs l2)) : Int)) (int (↑(List.length l2) : Int)) from (Sub.of_eq (by simp only [Go.Sq.encs_length, Int.toNat_natCast]))), kv 120 (show Am.Sub (int (↑(List.length (encs l)) : Int)) (int (↑(List.length l) : Int)) from (Sub.of_eq (by simp only [Go.Sq.encs_length, Int.toNat_natCast]))), kv 121 (show Am.Sub (int (IntKind.wrap IntKind.i64 ((↑(List.length l) : Int) + 1))) (int (↑(List.length l + 1) : Int)) from (Sub.of_wrap (by omega) (by omega) (by omega))), kf (show ((↑(List.length l2) : Int) != (↑(List.length l + 1) : Int)) = false from (congrArg Bool.not (decide_eq_true (by omega)))), kf (show (!CE.gn x) = false from (congrArg Bool.not (hg))), kp (show (2 : Int) ≠ (0 : Int) from (by omega)), kf (show (Int.tmod (↑n : Int) 2 == 0) = false from (decide_eq_false (by omega))), kc [] (@hE ), kf (Eq.refl false), kv 50 (show Am.Sub (int (IntKind.wrap IntKind.i64 ((↑n : Int) + 1))) (int (↑(n + 1) : Int)) from (Sub.of_wrap (by omega) (by omega) (by omega))), kp (show ∀ (x : List AV), x ∈ encs (List.take (at0 - 0) arr ++ (List.take (m0 - (at0 + 1)) (List.drop (0 + (at0 + 1)) arr) ++ List.drop (at0 - 0 + List.length (List.take (m0 - (at0 + 1)) (List.drop (0 + (at0 + 1)) arr))) arr)) → AV.idsInL [] x = true from (Go.Sq.encs_ids _)), kp (show ∀ (x : List AV), x ∈ idcs late → AV.idsInL [] x = true from (Go.Sq.idcs_ids _))] (others 163 [1, 5, 7, 8, 9, 10]) 3 h (by kernel_rfl)

end Go.Sq

/- SEQUENCE, 60: the law Converges, walked: a round. -/
namespace Go.Sq
set_option maxRecDepth 100000
set_option linter.unusedSimpArgs false
set_option linter.unusedVariables false
open Go Go.Am Go.Proofs Go.Seat

theorem oLQ_a (ps : List Nat) (want l arr : List CE) (n g m0 : Nat) (d : CE) (late : List ID) (g2 : Nat) (at0 : Nat) (x : CE) (l2 : List CE) (hl : m0 ≤ 40) (h0 : 0 < m0) (ha : at0 < m0) (hm : m0 ≤ arr.length) (har : arr.length ≤ 40) (hn : ps.length ≤ n) (hnn : n ≤ 40) (hx : arr[0 + at0]? = some x) (hll : l.length ≤ 40) (hlen : l2.length = l.length + 1) (hIn : RunL P G none 0 (loopAt P 6 1) (inL ps want l arr n g m0 d late g2 0 0) (.exit 2) (inLX ps want l arr n g m0 d late g2 at0)) (hI : CallC P G 18 [ces l, cel ⟨x.dv, x.sq, x.at', x.ad, x.as', x.aa, x.tm, x.vl, false⟩] [] (.ret (.tup [ces l2, int 0])) []) (hg : x.gn = false) (ex : AEx) (s' : St) (h : ((at0 - 0 + List.length (List.take (m0 - (at0 + 1)) (List.drop (0 + (at0 + 1)) (encs arr))) ≤ List.length (encs arr)) ∧ ((List.length (List.take (m0 - (at0 + 1)) (List.drop (0 + (at0 + 1)) (encs arr))) = m0 - (at0 + 1)) ∧ RunL P G none 0 (loopAt P 6 0) (St.mk (slots 163 [(1, AV.sl 1 false (List.map pk1 ps)), (5, AV.sl 9 false (encs want)), (7, AV.sl 9 false (encs l2)), (8, AV.own 2 g2 0 (List.length late)), (9, AV.own 0 (g + 1) 0 (at0 - 0 + List.length (List.take (m0 - (at0 + 1)) (List.drop (0 + (at0 + 1)) arr)))), (10, int (↑(n + 1) : Int))]) [AObj.arr (g + 1) 9 false (encs (List.take (at0 - 0) arr ++ (List.take (m0 - (at0 + 1)) (List.drop (0 + (at0 + 1)) arr) ++ List.drop (at0 - 0 + List.length (List.take (m0 - (at0 + 1)) (List.drop (0 + (at0 + 1)) arr))) arr))), AObj.box [int (CE.dv d), int (CE.sq d), int (CE.at' d), int (CE.ad d), int (CE.as' d), int (CE.aa d), int (CE.tm d), str (CE.vl d), Am.bool (CE.gn d)], AObj.arr g2 3 false (idcs late)] []) ex s'))) : RunL P G none 0 (loopAt P 6 0) (ouL ps want l arr n g m0 d late g2) ex s' := by
  have hz0 : g = g := (rfl)
  obtain ⟨o3, h⟩ := h
  obtain ⟨o4, h⟩ := h
  exact loop_next [kp hz0, kt (show decide ((↑m0 : Int) > (0 : Int)) = true from (decide_eq_true (by omega))), kv 53 (show Am.Sub (int (↑(List.length (List.map pk1 ps)) : Int)) (int (↑(List.length ps) : Int)) from (Sub.of_eq (by simp only [Int.toNat_natCast, Go.Sq.pks_length]))), kf (show decide ((↑n : Int) < (↑(List.length ps) : Int)) = false from (decide_eq_false (by omega))), kp hz0, kl [46, 47, 48, 51, 52, 53, 54, 63] 3 (@hIn ), kf (Eq.refl false), ko (Orc.elem (enc x)), kp hz0, kp (show (0 : Int) ≤ (↑at0 : Int) ∧ (↑at0 : Int) < (↑m0 : Int) from (by omega)), kp hz0, kp (show (encs arr)[0 + Int.toNat (↑at0 : Int)]? = some (enc x) from (el_get hx)), kp hz0, kp (show (0 : Int) ≤ (0 : Int) ∧ (0 : Int) ≤ (↑at0 : Int) ∧ (↑at0 : Int) ≤ (↑m0 : Int) from (by omega)), kv 102 (show Am.Sub (int (IntKind.wrap IntKind.i64 ((↑at0 : Int) + 1))) (int (↑(at0 + 1) : Int)) from (Sub.of_wrap (by omega) (by omega) (by omega))), ko (Orc.own), kp hz0, kp (show (0 : Int) ≤ (↑(at0 + 1) : Int) ∧ (↑(at0 + 1) : Int) ≤ (↑m0 : Int) ∧ (↑m0 : Int) ≤ (↑m0 : Int) from (by omega)), kv 104 (show Am.Sub (AV.own 0 (g + 1) 0 (Int.toNat (↑at0 : Int) - 0 + List.length (List.take (Int.toNat (↑m0 : Int) - Int.toNat (↑(at0 + 1) : Int)) (List.drop (0 + Int.toNat (↑(at0 + 1) : Int)) (encs arr))))) (AV.own 0 (g + 1) 0 (at0 - 0 + List.length (List.take (m0 - (at0 + 1)) (List.drop (0 + (at0 + 1)) arr)))) from (Sub.of_eq (by simp only [Go.Sq.encs_drop, Go.Sq.encs_take, Go.Sq.encs_length, Int.toNat_natCast]))), ko (Orc.hp none (AV.lit undef) [AObj.arr (g + 1) 9 false (encs (List.take (at0 - 0) arr ++ (List.take (m0 - (at0 + 1)) (List.drop (0 + (at0 + 1)) arr) ++ List.drop (at0 - 0 + List.length (List.take (m0 - (at0 + 1)) (List.drop (0 + (at0 + 1)) arr))) arr))), AObj.box [int (CE.dv d), int (CE.sq d), int (CE.at' d), int (CE.ad d), int (CE.as' d), int (CE.aa d), int (CE.tm d), str (CE.vl d), Am.bool (CE.gn d)], AObj.arr g2 3 false (idcs late), AObj.box [int (CE.dv x), int (CE.sq x), int (CE.at' x), int (CE.ad x), int (CE.as' x), int (CE.aa x), int (CE.tm x), str (CE.vl x), Am.bool false]]), kp hz0, kp o3, kp hz0, kp o4, kp (show Am.Sub (AV.lit undef) (AV.lit undef) from (Sub.refl _)), kp (show Am.HSub [AObj.arr (g + 1) 9 false (List.take (Int.toNat (↑at0 : Int) - 0) (encs arr) ++ (List.take (Int.toNat (↑m0 : Int) - Int.toNat (↑(at0 + 1) : Int)) (List.drop (0 + Int.toNat (↑(at0 + 1) : Int)) (encs arr)) ++ List.drop (Int.toNat (↑at0 : Int) - 0 + List.length (List.take (Int.toNat (↑m0 : Int) - Int.toNat (↑(at0 + 1) : Int)) (List.drop (0 + Int.toNat (↑(at0 + 1) : Int)) (encs arr)))) (encs arr))), AObj.box [int (CE.dv d), int (CE.sq d), int (CE.at' d), int (CE.ad d), int (CE.as' d), int (CE.aa d), int (CE.tm d), str (CE.vl d), Am.bool (CE.gn d)], AObj.arr g2 3 false (idcs late), AObj.box [int (CE.dv x), int (CE.sq x), int (CE.at' x), int (CE.ad x), int (CE.as' x), int (CE.aa x), int (CE.tm x), str (CE.vl x), Am.bool false]] [AObj.arr (g + 1) 9 false (encs (List.take (at0 - 0) arr ++ (List.take (m0 - (at0 + 1)) (List.drop (0 + (at0 + 1)) arr) ++ List.drop (at0 - 0 + List.length (List.take (m0 - (at0 + 1)) (List.drop (0 + (at0 + 1)) arr))) arr))), AObj.box [int (CE.dv d), int (CE.sq d), int (CE.at' d), int (CE.ad d), int (CE.as' d), int (CE.aa d), int (CE.tm d), str (CE.vl d), Am.bool (CE.gn d)], AObj.arr g2 3 false (idcs late), AObj.box [int (CE.dv x), int (CE.sq x), int (CE.at' x), int (CE.ad x), int (CE.as' x), int (CE.aa x), int (CE.tm x), str (CE.vl x), Am.bool false]] from (⟨.inl (by simp only [Go.Sq.encs_drop, Go.Sq.encs_take, Go.Sq.encs_append, Go.Sq.encs_length, Int.toNat_natCast]), .inl rfl, .inl rfl, .inl rfl, trivial⟩)), kc [] (@hI ), kf (Eq.refl false), kv 118 (show Am.Sub (int (↑(List.length (encs l2)) : Int)) (int (↑(List.length l2) : Int)) from (Sub.of_eq (by simp only [Go.Sq.encs_length, Int.toNat_natCast]))), kv 120 (show Am.Sub (int (↑(List.length (encs l)) : Int)) (int (↑(List.length l) : Int)) from (Sub.of_eq (by simp only [Go.Sq.encs_length, Int.toNat_natCast]))), kv 121 (show Am.Sub (int (IntKind.wrap IntKind.i64 ((↑(List.length l) : Int) + 1))) (int (↑(List.length l + 1) : Int)) from (Sub.of_wrap (by omega) (by omega) (by omega))), kf (show ((↑(List.length l2) : Int) != (↑(List.length l + 1) : Int)) = false from (congrArg Bool.not (decide_eq_true (by omega)))), kt (show (!CE.gn x) = true from (congrArg Bool.not (hg))), kv 50 (show Am.Sub (int (IntKind.wrap IntKind.i64 ((↑n : Int) + 1))) (int (↑(n + 1) : Int)) from (Sub.of_wrap (by omega) (by omega) (by omega))), kp (show ∀ (x : List AV), x ∈ encs (List.take (at0 - 0) arr ++ (List.take (m0 - (at0 + 1)) (List.drop (0 + (at0 + 1)) arr) ++ List.drop (at0 - 0 + List.length (List.take (m0 - (at0 + 1)) (List.drop (0 + (at0 + 1)) arr))) arr)) → AV.idsInL [] x = true from (Go.Sq.encs_ids _)), kp (show ∀ (x : List AV), x ∈ idcs late → AV.idsInL [] x = true from (Go.Sq.idcs_ids _))] (others 163 [1, 5, 7, 8, 9, 10]) 3 h (by kernel_rfl)

theorem oLQ_e (ps : List Nat) (want l arr : List CE) (n g m0 : Nat) (d : CE) (late : List ID) (g2 : Nat) (at0 : Nat) (x : CE) (l2 : List CE) (hl : m0 ≤ 40) (h0 : 0 < m0) (ha : at0 < m0) (hm : m0 ≤ arr.length) (har : arr.length ≤ 40) (hn : ps.length ≤ n) (hnn : n ≤ 40) (hx : arr[0 + at0]? = some x) (hll : l.length ≤ 40) (hlen : l2.length = l.length + 1) (hIn : RunL P G none 0 (loopAt P 6 1) (inL ps want l arr n g m0 d late g2 0 0) (.exit 2) (inLX ps want l arr n g m0 d late g2 at0)) (hI : CallC P G 18 [ces l, cel ⟨x.dv, x.sq, x.at', x.ad, x.as', x.aa, x.tm, x.vl, false⟩] [] (.ret (.tup [ces l2, int 0])) []) (hg : x.gn = true) (he : Int.tmod (n : Int) 2 = 0) (hla : late.length ≤ 40) (ex : AEx) (s' : St) (h : ((at0 - 0 + List.length (List.take (m0 - (at0 + 1)) (List.drop (0 + (at0 + 1)) (encs arr))) ≤ List.length (encs arr)) ∧ ((List.length (List.take (m0 - (at0 + 1)) (List.drop (0 + (at0 + 1)) (encs arr))) = m0 - (at0 + 1)) ∧ RunL P G none 0 (loopAt P 6 0) (St.mk (slots 163 [(1, AV.sl 1 false (List.map pk1 ps)), (5, AV.sl 9 false (encs want)), (7, AV.sl 9 false (encs l2)), (8, AV.own 2 (g2 + 1) 0 (List.length (late ++ [(CE.dv x, CE.sq x, CE.at' x)]))), (9, AV.own 0 (g + 1) 0 (at0 - 0 + List.length (List.take (m0 - (at0 + 1)) (List.drop (0 + (at0 + 1)) arr)))), (10, int (↑(n + 1) : Int))]) [AObj.arr (g + 1) 9 false (encs (List.take (at0 - 0) arr ++ (List.take (m0 - (at0 + 1)) (List.drop (0 + (at0 + 1)) arr) ++ List.drop (at0 - 0 + List.length (List.take (m0 - (at0 + 1)) (List.drop (0 + (at0 + 1)) arr))) arr))), AObj.box [int (CE.dv d), int (CE.sq d), int (CE.at' d), int (CE.ad d), int (CE.as' d), int (CE.aa d), int (CE.tm d), str (CE.vl d), Am.bool (CE.gn d)], AObj.arr (g2 + 1) 3 false (idcs (late ++ [(CE.dv x, CE.sq x, CE.at' x)]))] []) ex s'))) : RunL P G none 0 (loopAt P 6 0) (ouL ps want l arr n g m0 d late g2) ex s' := by
  have hz0 : g = g := (rfl)
  obtain ⟨o3, h⟩ := h
  obtain ⟨o4, h⟩ := h
  exact loop_next [kp hz0, kt (show decide ((↑m0 : Int) > (0 : Int)) = true from (decide_eq_true (by omega))), kv 53 (show Am.Sub (int (↑(List.length (List.map pk1 ps)) : Int)) (int (↑(List.length ps) : Int)) from (Sub.of_eq (by simp only [Int.toNat_natCast, Go.Sq.pks_length]))), kf (show decide ((↑n : Int) < (↑(List.length ps) : Int)) = false from (decide_eq_false (by omega))), kp hz0, kl [46, 47, 48, 51, 52, 53, 54, 63] 3 (@hIn ), kf (Eq.refl false), ko (Orc.elem (enc x)), kp hz0, kp (show (0 : Int) ≤ (↑at0 : Int) ∧ (↑at0 : Int) < (↑m0 : Int) from (by omega)), kp hz0, kp (show (encs arr)[0 + Int.toNat (↑at0 : Int)]? = some (enc x) from (el_get hx)), kp hz0, kp (show (0 : Int) ≤ (0 : Int) ∧ (0 : Int) ≤ (↑at0 : Int) ∧ (↑at0 : Int) ≤ (↑m0 : Int) from (by omega)), kv 102 (show Am.Sub (int (IntKind.wrap IntKind.i64 ((↑at0 : Int) + 1))) (int (↑(at0 + 1) : Int)) from (Sub.of_wrap (by omega) (by omega) (by omega))), ko (Orc.own), kp hz0, kp (show (0 : Int) ≤ (↑(at0 + 1) : Int) ∧ (↑(at0 + 1) : Int) ≤ (↑m0 : Int) ∧ (↑m0 : Int) ≤ (↑m0 : Int) from (by omega)), kv 104 (show Am.Sub (AV.own 0 (g + 1) 0 (Int.toNat (↑at0 : Int) - 0 + List.length (List.take (Int.toNat (↑m0 : Int) - Int.toNat (↑(at0 + 1) : Int)) (List.drop (0 + Int.toNat (↑(at0 + 1) : Int)) (encs arr))))) (AV.own 0 (g + 1) 0 (at0 - 0 + List.length (List.take (m0 - (at0 + 1)) (List.drop (0 + (at0 + 1)) arr)))) from (Sub.of_eq (by simp only [Go.Sq.encs_drop, Go.Sq.encs_take, Go.Sq.encs_length, Int.toNat_natCast]))), ko (Orc.hp none (AV.lit undef) [AObj.arr (g + 1) 9 false (encs (List.take (at0 - 0) arr ++ (List.take (m0 - (at0 + 1)) (List.drop (0 + (at0 + 1)) arr) ++ List.drop (at0 - 0 + List.length (List.take (m0 - (at0 + 1)) (List.drop (0 + (at0 + 1)) arr))) arr))), AObj.box [int (CE.dv d), int (CE.sq d), int (CE.at' d), int (CE.ad d), int (CE.as' d), int (CE.aa d), int (CE.tm d), str (CE.vl d), Am.bool (CE.gn d)], AObj.arr g2 3 false (idcs late), AObj.box [int (CE.dv x), int (CE.sq x), int (CE.at' x), int (CE.ad x), int (CE.as' x), int (CE.aa x), int (CE.tm x), str (CE.vl x), Am.bool false]]), kp hz0, kp o3, kp hz0, kp o4, kp (show Am.Sub (AV.lit undef) (AV.lit undef) from (Sub.refl _)), kp (show Am.HSub [AObj.arr (g + 1) 9 false (List.take (Int.toNat (↑at0 : Int) - 0) (encs arr) ++ (List.take (Int.toNat (↑m0 : Int) - Int.toNat (↑(at0 + 1) : Int)) (List.drop (0 + Int.toNat (↑(at0 + 1) : Int)) (encs arr)) ++ List.drop (Int.toNat (↑at0 : Int) - 0 + List.length (List.take (Int.toNat (↑m0 : Int) - Int.toNat (↑(at0 + 1) : Int)) (List.drop (0 + Int.toNat (↑(at0 + 1) : Int)) (encs arr)))) (encs arr))), AObj.box [int (CE.dv d), int (CE.sq d), int (CE.at' d), int (CE.ad d), int (CE.as' d), int (CE.aa d), int (CE.tm d), str (CE.vl d), Am.bool (CE.gn d)], AObj.arr g2 3 false (idcs late), AObj.box [int (CE.dv x), int (CE.sq x), int (CE.at' x), int (CE.ad x), int (CE.as' x), int (CE.aa x), int (CE.tm x), str (CE.vl x), Am.bool false]] [AObj.arr (g + 1) 9 false (encs (List.take (at0 - 0) arr ++ (List.take (m0 - (at0 + 1)) (List.drop (0 + (at0 + 1)) arr) ++ List.drop (at0 - 0 + List.length (List.take (m0 - (at0 + 1)) (List.drop (0 + (at0 + 1)) arr))) arr))), AObj.box [int (CE.dv d), int (CE.sq d), int (CE.at' d), int (CE.ad d), int (CE.as' d), int (CE.aa d), int (CE.tm d), str (CE.vl d), Am.bool (CE.gn d)], AObj.arr g2 3 false (idcs late), AObj.box [int (CE.dv x), int (CE.sq x), int (CE.at' x), int (CE.ad x), int (CE.as' x), int (CE.aa x), int (CE.tm x), str (CE.vl x), Am.bool false]] from (⟨.inl (by simp only [Go.Sq.encs_drop, Go.Sq.encs_take, Go.Sq.encs_append, Go.Sq.encs_length, Int.toNat_natCast]), .inl rfl, .inl rfl, .inl rfl, trivial⟩)), kc [] (@hI ), kf (Eq.refl false), kv 118 (show Am.Sub (int (↑(List.length (encs l2)) : Int)) (int (↑(List.length l2) : Int)) from (Sub.of_eq (by simp only [Go.Sq.encs_length, Int.toNat_natCast]))), kv 120 (show Am.Sub (int (↑(List.length (encs l)) : Int)) (int (↑(List.length l) : Int)) from (Sub.of_eq (by simp only [Go.Sq.encs_length, Int.toNat_natCast]))), kv 121 (show Am.Sub (int (IntKind.wrap IntKind.i64 ((↑(List.length l) : Int) + 1))) (int (↑(List.length l + 1) : Int)) from (Sub.of_wrap (by omega) (by omega) (by omega))), kf (show ((↑(List.length l2) : Int) != (↑(List.length l + 1) : Int)) = false from (congrArg Bool.not (decide_eq_true (by omega)))), kf (show (!CE.gn x) = false from (congrArg Bool.not (hg))), kp (show (2 : Int) ≠ (0 : Int) from (by omega)), kt (show (Int.tmod (↑n : Int) 2 == 0) = true from (decide_eq_true (by omega))), ko (Orc.hp (some 134) (AV.own 2 (g2 + 1) 0 (List.length (late ++ [(CE.dv x, CE.sq x, CE.at' x)]))) [AObj.arr (g + 1) 9 false (encs (List.take (at0 - 0) arr ++ (List.take (m0 - (at0 + 1)) (List.drop (0 + (at0 + 1)) arr) ++ List.drop (at0 - 0 + List.length (List.take (m0 - (at0 + 1)) (List.drop (0 + (at0 + 1)) arr))) arr))), AObj.box [int (CE.dv d), int (CE.sq d), int (CE.at' d), int (CE.ad d), int (CE.as' d), int (CE.aa d), int (CE.tm d), str (CE.vl d), Am.bool (CE.gn d)], AObj.arr (g2 + 1) 3 false (idcs (late ++ [(CE.dv x, CE.sq x, CE.at' x)])), AObj.box [int (CE.dv x), int (CE.sq x), int (CE.at' x), int (CE.ad x), int (CE.as' x), int (CE.aa x), int (CE.tm x), str (CE.vl x), Am.bool false]]), kp (show Am.Sub (AV.own 2 (g2 + 1) 0 (List.length late + 1)) (AV.own 2 (g2 + 1) 0 (List.length (late ++ [(CE.dv x, CE.sq x, CE.at' x)]))) from (Sub.of_eq (by simp [Go.Sq.encs_length, Go.Sq.pks_length, Go.Sq.idcs_length, Go.Sq.encs_ids, Go.Sq.idcs_ids]))), kp (show Am.HSub [AObj.arr (g + 1) 9 false (encs (List.take (at0 - 0) arr ++ (List.take (m0 - (at0 + 1)) (List.drop (0 + (at0 + 1)) arr) ++ List.drop (at0 - 0 + List.length (List.take (m0 - (at0 + 1)) (List.drop (0 + (at0 + 1)) arr))) arr))), AObj.box [int (CE.dv d), int (CE.sq d), int (CE.at' d), int (CE.ad d), int (CE.as' d), int (CE.aa d), int (CE.tm d), str (CE.vl d), Am.bool (CE.gn d)], AObj.arr (g2 + 1) 3 false (idcs late ++ [[int (CE.dv x), int (CE.sq x), int (CE.at' x)]]), AObj.box [int (CE.dv x), int (CE.sq x), int (CE.at' x), int (CE.ad x), int (CE.as' x), int (CE.aa x), int (CE.tm x), str (CE.vl x), Am.bool false]] [AObj.arr (g + 1) 9 false (encs (List.take (at0 - 0) arr ++ (List.take (m0 - (at0 + 1)) (List.drop (0 + (at0 + 1)) arr) ++ List.drop (at0 - 0 + List.length (List.take (m0 - (at0 + 1)) (List.drop (0 + (at0 + 1)) arr))) arr))), AObj.box [int (CE.dv d), int (CE.sq d), int (CE.at' d), int (CE.ad d), int (CE.as' d), int (CE.aa d), int (CE.tm d), str (CE.vl d), Am.bool (CE.gn d)], AObj.arr (g2 + 1) 3 false (idcs (late ++ [(CE.dv x, CE.sq x, CE.at' x)])), AObj.box [int (CE.dv x), int (CE.sq x), int (CE.at' x), int (CE.ad x), int (CE.as' x), int (CE.aa x), int (CE.tm x), str (CE.vl x), Am.bool false]] from (⟨.inl rfl, .inl rfl, .inl (by simp only [Int.toNat_natCast, Go.Sq.idcs_one, Go.Sq.idcs_append]), .inl rfl, trivial⟩)), kp (show g2 = g2 from (rfl)), kp (show List.length late = List.length (idcs late) from ((Go.Sq.idcs_length _).symm)), kp (show (List.length late + 1) * 24 ≤ 140737488355328 from (by omega)), kv 50 (show Am.Sub (int (IntKind.wrap IntKind.i64 ((↑n : Int) + 1))) (int (↑(n + 1) : Int)) from (Sub.of_wrap (by omega) (by omega) (by omega))), kp (show ∀ (x : List AV), x ∈ encs (List.take (at0 - 0) arr ++ (List.take (m0 - (at0 + 1)) (List.drop (0 + (at0 + 1)) arr) ++ List.drop (at0 - 0 + List.length (List.take (m0 - (at0 + 1)) (List.drop (0 + (at0 + 1)) arr))) arr)) → AV.idsInL [] x = true from (Go.Sq.encs_ids _)), kp (show ∀ (x_1 : List AV), x_1 ∈ idcs (late ++ [(CE.dv x, CE.sq x, CE.at' x)]) → AV.idsInL [] x_1 = true from (Go.Sq.idcs_ids _))] (others 163 [1, 5, 7, 8, 9, 10]) 3 h (by kernel_rfl)

theorem oLQ_o (ps : List Nat) (want l arr : List CE) (n g m0 : Nat) (d : CE) (late : List ID) (g2 : Nat) (at0 : Nat) (x : CE) (l2 : List CE) (hl : m0 ≤ 40) (h0 : 0 < m0) (ha : at0 < m0) (hm : m0 ≤ arr.length) (har : arr.length ≤ 40) (hn : ps.length ≤ n) (hnn : n ≤ 40) (hx : arr[0 + at0]? = some x) (hll : l.length ≤ 40) (hlen : l2.length = l.length + 1) (hIn : RunL P G none 0 (loopAt P 6 1) (inL ps want l arr n g m0 d late g2 0 0) (.exit 2) (inLX ps want l arr n g m0 d late g2 at0)) (hI : CallC P G 18 [ces l, cel ⟨x.dv, x.sq, x.at', x.ad, x.as', x.aa, x.tm, x.vl, false⟩] [] (.ret (.tup [ces l2, int 0])) []) (l3 : List CE) (hg : x.gn = true) (he : ¬ Int.tmod (n : Int) 2 = 0) (hE : CallC P G 20 [ces l2, ida x.dv x.sq x.at'] [] (.ret (.tup [ces l3, int 0])) []) (ex : AEx) (s' : St) (h : ((at0 - 0 + List.length (List.take (m0 - (at0 + 1)) (List.drop (0 + (at0 + 1)) (encs arr))) ≤ List.length (encs arr)) ∧ ((List.length (List.take (m0 - (at0 + 1)) (List.drop (0 + (at0 + 1)) (encs arr))) = m0 - (at0 + 1)) ∧ RunL P G none 0 (loopAt P 6 0) (St.mk (slots 163 [(1, AV.sl 1 false (List.map pk1 ps)), (5, AV.sl 9 false (encs want)), (7, AV.sl 9 false (encs l3)), (8, AV.own 2 g2 0 (List.length late)), (9, AV.own 0 (g + 1) 0 (at0 - 0 + List.length (List.take (m0 - (at0 + 1)) (List.drop (0 + (at0 + 1)) arr)))), (10, int (↑(n + 1) : Int))]) [AObj.arr (g + 1) 9 false (encs (List.take (at0 - 0) arr ++ (List.take (m0 - (at0 + 1)) (List.drop (0 + (at0 + 1)) arr) ++ List.drop (at0 - 0 + List.length (List.take (m0 - (at0 + 1)) (List.drop (0 + (at0 + 1)) arr))) arr))), AObj.box [int (CE.dv d), int (CE.sq d), int (CE.at' d), int (CE.ad d), int (CE.as' d), int (CE.aa d), int (CE.tm d), str (CE.vl d), Am.bool (CE.gn d)], AObj.arr g2 3 false (idcs late)] []) ex s'))) : RunL P G none 0 (loopAt P 6 0) (ouL ps want l arr n g m0 d late g2) ex s' := by
  have hz0 : g = g := (rfl)
  obtain ⟨o3, h⟩ := h
  obtain ⟨o4, h⟩ := h
  exact loop_next [kp hz0, kt (show decide ((↑m0 : Int) > (0 : Int)) = true from (decide_eq_true (by omega))), kv 53 (show Am.Sub (int (↑(List.length (List.map pk1 ps)) : Int)) (int (↑(List.length ps) : Int)) from (Sub.of_eq (by simp only [Int.toNat_natCast, Go.Sq.pks_length]))), kf (show decide ((↑n : Int) < (↑(List.length ps) : Int)) = false from (decide_eq_false (by omega))), kp hz0, kl [46, 47, 48, 51, 52, 53, 54, 63] 3 (@hIn ), kf (Eq.refl false), ko (Orc.elem (enc x)), kp hz0, kp (show (0 : Int) ≤ (↑at0 : Int) ∧ (↑at0 : Int) < (↑m0 : Int) from (by omega)), kp hz0, kp (show (encs arr)[0 + Int.toNat (↑at0 : Int)]? = some (enc x) from (el_get hx)), kp hz0, kp (show (0 : Int) ≤ (0 : Int) ∧ (0 : Int) ≤ (↑at0 : Int) ∧ (↑at0 : Int) ≤ (↑m0 : Int) from (by omega)), kv 102 (show Am.Sub (int (IntKind.wrap IntKind.i64 ((↑at0 : Int) + 1))) (int (↑(at0 + 1) : Int)) from (Sub.of_wrap (by omega) (by omega) (by omega))), ko (Orc.own), kp hz0, kp (show (0 : Int) ≤ (↑(at0 + 1) : Int) ∧ (↑(at0 + 1) : Int) ≤ (↑m0 : Int) ∧ (↑m0 : Int) ≤ (↑m0 : Int) from (by omega)), kv 104 (show Am.Sub (AV.own 0 (g + 1) 0 (Int.toNat (↑at0 : Int) - 0 + List.length (List.take (Int.toNat (↑m0 : Int) - Int.toNat (↑(at0 + 1) : Int)) (List.drop (0 + Int.toNat (↑(at0 + 1) : Int)) (encs arr))))) (AV.own 0 (g + 1) 0 (at0 - 0 + List.length (List.take (m0 - (at0 + 1)) (List.drop (0 + (at0 + 1)) arr)))) from (Sub.of_eq (by simp only [Go.Sq.encs_drop, Go.Sq.encs_take, Go.Sq.encs_length, Int.toNat_natCast]))), ko (Orc.hp none (AV.lit undef) [AObj.arr (g + 1) 9 false (encs (List.take (at0 - 0) arr ++ (List.take (m0 - (at0 + 1)) (List.drop (0 + (at0 + 1)) arr) ++ List.drop (at0 - 0 + List.length (List.take (m0 - (at0 + 1)) (List.drop (0 + (at0 + 1)) arr))) arr))), AObj.box [int (CE.dv d), int (CE.sq d), int (CE.at' d), int (CE.ad d), int (CE.as' d), int (CE.aa d), int (CE.tm d), str (CE.vl d), Am.bool (CE.gn d)], AObj.arr g2 3 false (idcs late), AObj.box [int (CE.dv x), int (CE.sq x), int (CE.at' x), int (CE.ad x), int (CE.as' x), int (CE.aa x), int (CE.tm x), str (CE.vl x), Am.bool false]]), kp hz0, kp o3, kp hz0, kp o4, kp (show Am.Sub (AV.lit undef) (AV.lit undef) from (Sub.refl _)), kp (show Am.HSub [AObj.arr (g + 1) 9 false (List.take (Int.toNat (↑at0 : Int) - 0) (encs arr) ++ (List.take (Int.toNat (↑m0 : Int) - Int.toNat (↑(at0 + 1) : Int)) (List.drop (0 + Int.toNat (↑(at0 + 1) : Int)) (encs arr)) ++ List.drop (Int.toNat (↑at0 : Int) - 0 + List.length (List.take (Int.toNat (↑m0 : Int) - Int.toNat (↑(at0 + 1) : Int)) (List.drop (0 + Int.toNat (↑(at0 + 1) : Int)) (encs arr)))) (encs arr))), AObj.box [int (CE.dv d), int (CE.sq d), int (CE.at' d), int (CE.ad d), int (CE.as' d), int (CE.aa d), int (CE.tm d), str (CE.vl d), Am.bool (CE.gn d)], AObj.arr g2 3 false (idcs late), AObj.box [int (CE.dv x), int (CE.sq x), int (CE.at' x), int (CE.ad x), int (CE.as' x), int (CE.aa x), int (CE.tm x), str (CE.vl x), Am.bool false]] [AObj.arr (g + 1) 9 false (encs (List.take (at0 - 0) arr ++ (List.take (m0 - (at0 + 1)) (List.drop (0 + (at0 + 1)) arr) ++ List.drop (at0 - 0 + List.length (List.take (m0 - (at0 + 1)) (List.drop (0 + (at0 + 1)) arr))) arr))), AObj.box [int (CE.dv d), int (CE.sq d), int (CE.at' d), int (CE.ad d), int (CE.as' d), int (CE.aa d), int (CE.tm d), str (CE.vl d), Am.bool (CE.gn d)], AObj.arr g2 3 false (idcs late), AObj.box [int (CE.dv x), int (CE.sq x), int (CE.at' x), int (CE.ad x), int (CE.as' x), int (CE.aa x), int (CE.tm x), str (CE.vl x), Am.bool false]] from (⟨.inl (by simp only [Go.Sq.encs_drop, Go.Sq.encs_take, Go.Sq.encs_append, Go.Sq.encs_length, Int.toNat_natCast]), .inl rfl, .inl rfl, .inl rfl, trivial⟩)), kc [] (@hI ), kf (Eq.refl false), kv 118 (show Am.Sub (int (↑(List.length (encs l2)) : Int)) (int (↑(List.length l2) : Int)) from (Sub.of_eq (by simp only [Go.Sq.encs_length, Int.toNat_natCast]))), kv 120 (show Am.Sub (int (↑(List.length (encs l)) : Int)) (int (↑(List.length l) : Int)) from (Sub.of_eq (by simp only [Go.Sq.encs_length, Int.toNat_natCast]))), kv 121 (show Am.Sub (int (IntKind.wrap IntKind.i64 ((↑(List.length l) : Int) + 1))) (int (↑(List.length l + 1) : Int)) from (Sub.of_wrap (by omega) (by omega) (by omega))), kf (show ((↑(List.length l2) : Int) != (↑(List.length l + 1) : Int)) = false from (congrArg Bool.not (decide_eq_true (by omega)))), kf (show (!CE.gn x) = false from (congrArg Bool.not (hg))), kp (show (2 : Int) ≠ (0 : Int) from (by omega)), kf (show (Int.tmod (↑n : Int) 2 == 0) = false from (decide_eq_false (by omega))), kc [] (@hE ), kf (Eq.refl false), kv 50 (show Am.Sub (int (IntKind.wrap IntKind.i64 ((↑n : Int) + 1))) (int (↑(n + 1) : Int)) from (Sub.of_wrap (by omega) (by omega) (by omega))), kp (show ∀ (x : List AV), x ∈ encs (List.take (at0 - 0) arr ++ (List.take (m0 - (at0 + 1)) (List.drop (0 + (at0 + 1)) arr) ++ List.drop (at0 - 0 + List.length (List.take (m0 - (at0 + 1)) (List.drop (0 + (at0 + 1)) arr))) arr)) → AV.idsInL [] x = true from (Go.Sq.encs_ids _)), kp (show ∀ (x : List AV), x ∈ idcs late → AV.idsInL [] x = true from (Go.Sq.idcs_ids _))] (others 163 [1, 5, 7, 8, 9, 10]) 3 h (by kernel_rfl)

end Go.Sq

/- SEQUENCE, 61: the law Converges, walked: the way in and out. -/
namespace Go.Sq
set_option maxRecDepth 100000
set_option linter.unusedSimpArgs false
set_option linter.unusedVariables false
open Go Go.Am Go.Proofs Go.Seat

def ou0 (ps : List Nat) (want l0 : List CE) : St := { env := slots 163 [(1, pks ps), (5, ces want), (7, nilS), (8, nilS), (9, .own 0 0 0 l0.length), (10, int 0)], H := [.arr 0 9 false (encs l0)] }
def enN (want l : List CE) : St := { env := slots 163 [(5, ces want), (7, ces l), (8, nilS)], H := [] }
def enL (want l arr : List CE) (g : Nat) (d : CE) (late : List ID) (g2 : Nat) : St := { env := slots 163 [(5, ces want), (7, ces l), (8, .own 2 g2 0 late.length)], H := [.arr g 9 false (encs arr), .box (enc d), .arr g2 3 false (idcs late)] }

theorem cv_eN (ps : List Nat) (want l arr : List CE) (n g m0 : Nat) (h0 : m0 = 0) (h : True) : RunL P G none 0 (loopAt P 6 0) (ouN ps want l arr n g m0) (AEx.exit 0) (enN want l) := by
  have _ := h
  exact loop_exit [kp (show g = g from (rfl)), kf (show decide ((↑m0 : Int) > (0 : Int)) = false from (decide_eq_false (by omega)))] (others 163 [5, 7, 8]) 0 (by kernel_rfl)

theorem cv_eL (ps : List Nat) (want l arr : List CE) (n g m0 : Nat) (d : CE) (late : List ID) (g2 : Nat) (h0 : m0 = 0) (h : True) : RunL P G none 0 (loopAt P 6 0) (ouL ps want l arr n g m0 d late g2) (AEx.exit 0) (enL want l arr g d late g2) := by
  have _ := h
  exact loop_exit [kp (show g = g from (rfl)), kf (show decide ((↑m0 : Int) > (0 : Int)) = false from (decide_eq_false (by omega)))] (others 163 [5, 7, 8]) 3 (by kernel_rfl)

def ouZ (ps : List Nat) : St := { env := slots 163 [(1, pks ps), (5, ces []), (7, nilS), (8, nilS), (9, .sl 9 true []), (10, int 0)], H := [] }
def enZ : St := { env := slots 163 [(5, ces []), (7, nilS), (8, nilS)], H := [] }

theorem cv_z (ps : List Nat) (h : True) : RunL P G none 0 (loopAt P 6 0) (ouZ ps) (AEx.exit 0) enZ := by
  have _ := h
  exact loop_exit [kf (Eq.refl false)] (others 163 [5, 7, 8]) 0 (by kernel_rfl)

def laZ : St := { env := slots 163 [(5, ces []), (7, nilS), (144, nilS), (145, int 0), (146, int 0)], H := [] }
def laN (want l : List CE) : St := { env := slots 163 [(5, ces want), (7, ces l), (144, nilS), (145, int 0), (146, int 0)], H := [] }
def laL (want l arr : List CE) (g : Nat) (d : CE) (late : List ID) (g2 k : Nat) : St := { env := slots 163 [(5, ces want), (7, ces l), (144, .own 2 g2 0 late.length), (145, int late.length), (146, int k)], H := [.arr g 9 false (encs arr), .box (enc d), .arr g2 3 false (idcs late)] }
def laX (want l : List CE) : St := { env := slots 163 [(5, ces want), (7, ces l)], H := [] }
def laZX : St := { env := slots 163 [(5, ces []), (7, nilS)], H := [] }

theorem la_z  (h : True) : RunL P G none 0 (loopAt P 6 2) laZ (AEx.exit 4) laZX := by
  have _ := h
  exact loop_exit [kf (Eq.refl false)] (others 163 [5, 7]) 0 (by kernel_rfl)

theorem la_nN (want l : List CE) (h : True) : RunL P G none 0 (loopAt P 6 2) (laN want l) (AEx.exit 4) (laX want l) := by
  have _ := h
  exact loop_exit [kf (Eq.refl false)] (others 163 [5, 7]) 0 (by kernel_rfl)

theorem la_e (want l arr : List CE) (g : Nat) (d : CE) (late : List ID) (g2 k : Nat) (hk : late.length ≤ k) (h : True) : RunL P G none 0 (loopAt P 6 2) (laL want l arr g d late g2 k) (AEx.exit 4) (laX want l) := by
  have _ := h
  exact loop_exit [kf (show decide ((↑k : Int) < (↑(List.length late) : Int)) = false from (decide_eq_false (by omega)))] (others 163 [5, 7]) 0 (by kernel_rfl)

theorem la_r (want l arr : List CE) (g : Nat) (d : CE) (late : List ID) (g2 k : Nat) (hla : late.length ≤ 40) (hk : k < late.length) (i j m : Int) (l2 : List CE) (hx : late[0 + k]? = some (i, j, m)) (hE : CallC P G 20 [ces l, ida i j m] [] (.ret (.tup [ces l2, int 0])) []) (ex : AEx) (s' : St) (h : RunL P G none 0 (loopAt P 6 2) (St.mk (slots 163 [(5, AV.sl 9 false (encs want)), (7, AV.sl 9 false (encs l2)), (144, AV.own 2 g2 0 (List.length late)), (145, int (↑(List.length late) : Int)), (146, int (↑(k + 1) : Int))]) [AObj.arr g 9 false (encs arr), AObj.box [int (CE.dv d), int (CE.sq d), int (CE.at' d), int (CE.ad d), int (CE.as' d), int (CE.aa d), int (CE.tm d), str (CE.vl d), Am.bool (CE.gn d)], AObj.arr g2 3 false (idcs late)] []) ex s') : RunL P G none 0 (loopAt P 6 2) (laL want l arr g d late g2 k) ex s' := by
  have hz1 : g2 = g2 := (rfl)
  exact loop_next [kt (show decide ((↑k : Int) < (↑(List.length late) : Int)) = true from (decide_eq_true (by omega))), ko (Orc.elem (idc (i, j, m))), kp hz1, kp (show (0 : Int) ≤ (↑k : Int) ∧ (↑k : Int) < (↑(List.length late) : Int) from (by omega)), kp hz1, kp (show (idcs late)[0 + Int.toNat (↑k : Int)]? = some (idc (i, j, m)) from (el_get hx)), kc [] (@hE ), kf (Eq.refl false), kv 159 (show Am.Sub (int (IntKind.wrap IntKind.i64 ((↑k : Int) + 1))) (int (↑(k + 1) : Int)) from (Sub.of_wrap (by omega) (by omega) (by omega))), kp (show ∀ (x : List AV), x ∈ encs arr → AV.idsInL [] x = true from (Go.Sq.encs_ids _)), kp (show ∀ (x : List AV), x ∈ idcs late → AV.idsInL [] x = true from (Go.Sq.idcs_ids _))] (others 163 [5, 7, 144, 145, 146]) 3 h (by kernel_rfl)

theorem cv_n (ps : List Nat) (hs : CallC P G 15 [ces [], ces []] [] (.ret (bool true)) []) (hf : CallC P G 12 [ces []] [] (.ret (bool true)) []) (h1 : CallC P G 13 [ces []] [] (.ret (.tup [ces [], int 0])) []) (h : True) : CallC P G 6 [ces [], pks ps] [] (AOut.ret (Am.bool true)) [] := by
  have _ := h
  exact callC_of [kc [] (@Go.Sq.sane_c ), kf (Eq.refl false), kc [] (@hf ), kf (Eq.refl false), kc [] (@h1 ), kf (Eq.refl false), ko (Orc.emp), kp (show [] = [] from (Am.nil_nil)), kl [0, 2, 3, 4, 6, 11, 12, 13, 14, 15, 16, 17, 18, 19, 20, 21, 22, 23, 24, 25, 26, 27, 28, 29, 30, 31, 32, 33, 34, 35, 36, 37, 38, 39, 40, 41, 42, 43, 44, 45, 46, 47, 48, 49, 50, 51, 52, 53, 54, 55, 56, 57, 58, 59, 60, 61, 62, 63, 64, 65, 66, 67, 68, 69, 70, 71, 72, 73, 74, 75, 76, 77, 78, 79, 80, 81, 82, 83, 84, 85, 86, 87, 88, 89, 90, 91, 92, 93, 94, 95, 96, 97, 98, 99, 100, 101, 102, 103, 104, 105, 106, 107, 108, 109, 110, 111, 112, 113, 114, 115, 116, 117, 118, 119, 120, 121, 122, 123, 124, 125, 126, 127, 128, 129, 130, 131, 132, 133, 134, 135, 136, 137, 138, 139, 140, 141, 142, 143, 144, 145, 146, 147, 148, 149, 150, 151, 152, 153, 154, 155, 156, 157, 158, 159, 160, 161, 162] 0 (@Go.Sq.cv_z (ps) (trivial)), kl [8] 0 (@Go.Sq.la_z (trivial)), kc [] (show CallC P G 15 [nilS, AV.sl 9 false []] [] (AOut.ret (Am.bool true)) [] from (CallC.args' (@hs ) ⟨Sub.nil _, Sub.refl _, trivial⟩))] (by kernel_rfl)

theorem cv_gN (ps : List Nat) (l0 want l : List CE) (hl : l0.length ≤ 40) (h0 : 0 < l0.length) (hne : ¬ encs l0 = []) (hf : CallC P G 12 [ces l0] [] (.ret (bool true)) []) (h1 : CallC P G 13 [ces l0] [] (.ret (.tup [ces want, int 0])) []) (hO : RunL P G none 0 (loopAt P 6 0) (ou0 ps want l0) (.exit 0) (enN want l)) (hs : CallC P G 15 [ces l, ces want] [] (.ret (bool true)) []) (h : True) : CallC P G 6 [ces l0, pks ps] [] (AOut.ret (Am.bool true)) [] := by
  have _ := h
  exact callC_of [kc [] (@Go.Sq.sane_c ), kf (Eq.refl false), kc [] (@hf ), kf (Eq.refl false), kc [] (@h1 ), kf (Eq.refl false), kv 45 (show Am.Sub (AV.own 0 0 0 (0 + List.length (encs l0))) (AV.own 0 0 0 (List.length l0)) from (Sub.of_eq (by simp [Go.Sq.encs_length, Go.Sq.pks_length, Go.Sq.idcs_length, Go.Sq.encs_ids, Go.Sq.idcs_ids]))), kp hne, kp (show (0 + List.length (encs l0)) * 80 ≤ 140737488355328 from (by simp only [List.length_append, List.length_cons, List.length_nil, List.length_map, Go.Sq.encs_length, Go.Sq.pks_length, Go.Sq.idcs_length, Go.Sq.encs_ids, Go.Sq.idcs_ids] <;> omega)), kl [0, 2, 3, 4, 6, 11, 12, 13, 14, 15, 16, 17, 18, 19, 20, 21, 22, 23, 24, 25, 26, 27, 28, 29, 30, 31, 32, 33, 34, 35, 36, 37, 38, 39, 40, 41, 42, 43, 44, 45, 46, 47, 48, 49, 50, 51, 52, 53, 54, 55, 56, 57, 58, 59, 60, 61, 62, 63, 64, 65, 66, 67, 68, 69, 70, 71, 72, 73, 74, 75, 76, 77, 78, 79, 80, 81, 82, 83, 84, 85, 86, 87, 88, 89, 90, 91, 92, 93, 94, 95, 96, 97, 98, 99, 100, 101, 102, 103, 104, 105, 106, 107, 108, 109, 110, 111, 112, 113, 114, 115, 116, 117, 118, 119, 120, 121, 122, 123, 124, 125, 126, 127, 128, 129, 130, 131, 132, 133, 134, 135, 136, 137, 138, 139, 140, 141, 142, 143, 144, 145, 146, 147, 148, 149, 150, 151, 152, 153, 154, 155, 156, 157, 158, 159, 160, 161, 162] 1 (@hO ), kl [8] 0 (@Go.Sq.la_nN (want) (l) (trivial)), kc [] (@hs )] (by kernel_rfl)

theorem cv_gL (ps : List Nat) (l0 want l arr l4 : List CE) (d : CE) (late : List ID) (g g2 : Nat) (hl : l0.length ≤ 40) (h0 : 0 < l0.length) (hne : ¬ encs l0 = []) (hf : CallC P G 12 [ces l0] [] (.ret (bool true)) []) (h1 : CallC P G 13 [ces l0] [] (.ret (.tup [ces want, int 0])) []) (hO : RunL P G none 0 (loopAt P 6 0) (ou0 ps want l0) (.exit 0) (enL want l arr g d late g2)) (hL : RunL P G none 0 (loopAt P 6 2) (laL want l arr g d late g2 0) (.exit 4) (laX want l4)) (hs : CallC P G 15 [ces l4, ces want] [] (.ret (bool true)) []) (h : True) : CallC P G 6 [ces l0, pks ps] [] (AOut.ret (Am.bool true)) [] := by
  have _ := h
  exact callC_of [kc [] (@Go.Sq.sane_c ), kf (Eq.refl false), kc [] (@hf ), kf (Eq.refl false), kc [] (@h1 ), kf (Eq.refl false), kv 45 (show Am.Sub (AV.own 0 0 0 (0 + List.length (encs l0))) (AV.own 0 0 0 (List.length l0)) from (Sub.of_eq (by simp [Go.Sq.encs_length, Go.Sq.pks_length, Go.Sq.idcs_length, Go.Sq.encs_ids, Go.Sq.idcs_ids]))), kp hne, kp (show (0 + List.length (encs l0)) * 80 ≤ 140737488355328 from (by simp only [List.length_append, List.length_cons, List.length_nil, List.length_map, Go.Sq.encs_length, Go.Sq.pks_length, Go.Sq.idcs_length, Go.Sq.encs_ids, Go.Sq.idcs_ids] <;> omega)), kl [0, 2, 3, 4, 6, 11, 12, 13, 14, 15, 16, 17, 18, 19, 20, 21, 22, 23, 24, 25, 26, 27, 28, 29, 30, 31, 32, 33, 34, 35, 36, 37, 38, 39, 40, 41, 42, 43, 44, 45, 46, 47, 48, 49, 50, 51, 52, 53, 54, 55, 56, 57, 58, 59, 60, 61, 62, 63, 64, 65, 66, 67, 68, 69, 70, 71, 72, 73, 74, 75, 76, 77, 78, 79, 80, 81, 82, 83, 84, 85, 86, 87, 88, 89, 90, 91, 92, 93, 94, 95, 96, 97, 98, 99, 100, 101, 102, 103, 104, 105, 106, 107, 108, 109, 110, 111, 112, 113, 114, 115, 116, 117, 118, 119, 120, 121, 122, 123, 124, 125, 126, 127, 128, 129, 130, 131, 132, 133, 134, 135, 136, 137, 138, 139, 140, 141, 142, 143, 144, 145, 146, 147, 148, 149, 150, 151, 152, 153, 154, 155, 156, 157, 158, 159, 160, 161, 162] 1 (@hO ), kp (show g2 = g2 from (rfl)), kl [8] 3 (@hL ), kc [] (@hs )] (by kernel_rfl)

end Go.Sq

/- SEQUENCE, 62: Converges, plain. -/
namespace Go.Sq
set_option maxRecDepth 100000
set_option linter.unusedSimpArgs false
set_option linter.unusedVariables false
open Go Go.Am Go.Proofs Go.Seat

/-- A cell, as it stands while those of `late` are not erased yet. -/
def clr (x : CE) : CE := { x with gn := false }
def cl (late : List ID) (x : CE) : CE := if x.id ∈ late then clr x else x
theorem cl_yes {late : List ID} {x : CE} (h : x.id ∈ late) : cl late x = clr x := if_pos h
theorem cl_no {late : List ID} {x : CE} (h : ¬ x.id ∈ late) : cl late x = x := if_neg h
theorem cl_alike (late : List ID) : Alike (cl late) := by
  constructor <;> intro x <;> unfold cl <;> split <;> rfl
theorem clr_no {x : CE} (h : x.gn = false) : clr x = x := by
  cases x; simp only [clr] at *; simp_all
theorem clr_gone {x : CE} (h : x.gn = true) : ({ clr x with gn := true } : CE) = x := by
  cases x; simp only [clr] at *; simp_all
theorem cl_ok {late : List ID} {x : CE} (h : OkR x) : OkR (cl late x) := by
  unfold cl; split
  · exact h
  · exact h
theorem cl_oks {late : List ID} {l : List CE} (h : OkRs l) : OkRs (l.map (cl late)) := fun x hx => by
  obtain ⟨y, hy, rfl⟩ := List.mem_map.1 hx
  exact cl_ok (h y hy)

/-- How things stand between two rounds. -/
structure Inv (l0 left done : List CE) (late : List ID) : Prop where
  perm : (done ++ left).Perm l0
  forms : formsB done = true
  late1 : ∀ i ∈ late, ∃ y ∈ done, y.id = i ∧ y.gn = true
  late2 : late.Nodup
def lst (done : List CE) (late : List ID) : List CE := (all done).map (cl late)
theorem lvl_mono {l m : List CE} (h : ∀ x ∈ l, x ∈ m) : ∀ {n : Nat} {c : CE}, lvl l n c → lvl m n c
  | 0, _, k => k
  | _ + 1, _, ⟨p, hp, e, k⟩ => ⟨p, h p hp, e, lvl_mono h k⟩
section
variable {l0 left done : List CE} {late : List ID} (I : Inv l0 left done late) (hf : formsB l0 = true)
theorem Inv.chk (I : Inv l0 left done late) : chkE (lst done late) = 0 := (cl_alike late).chk (ord_ord I.forms).2.2
theorem Inv.len (I : Inv l0 left done late) : (lst done late).length = done.length := by
  unfold lst; rw [List.length_map, (all_is I.forms).length_eq]
theorem Inv.len0 (I : Inv l0 left done late) : done.length + left.length = l0.length := by
  rw [← I.perm.length_eq, List.length_append]
theorem Inv.oks (I : Inv l0 left done late) (h : OkRs l0) : OkRs (lst done late) := cl_oks fun x hx => h x (I.perm.mem_iff.1 (List.mem_append_left _ ((all_is I.forms).mem_iff.1 hx)))
/-- A cell that may be put. -/
def good (l : List CE) (x : CE) : Prop := x.after = (0, 0, 0) ∨ ∃ m, fX (pid x.ad x.as' x.aa) l = some m
theorem Inv.good_of (I : Inv l0 left done late) {x p : CE} (hp : p ∈ done) (e : p.id = x.after) : good (lst done late) x := by
  right
  exact fX_mem (x := cl late p) (List.mem_map.2 ⟨p, (all_is I.forms).mem_iff.2 hp, rfl⟩) (((cl_alike late).id p).trans e)
theorem Inv.is_good (I : Inv l0 left done late) : ∀ (n : Nat) {x : CE}, x ∈ left → lvl l0 n x → ∃ y ∈ left, good (lst done late) y
  | 0, x, hx, h => ⟨x, hx, .inl h⟩
  | n + 1, x, hx, ⟨p, hp, e, h⟩ => by
    rcases List.mem_append.1 (I.perm.mem_iff.2 hp) with hd | hl
    · exact ⟨x, hx, I.good_of hd e⟩
    · exact I.is_good n hl h
theorem Inv.some_good (I : Inv l0 left done late) (hf : formsB l0 = true) (hne : left ≠ []) : ∃ y ∈ left, good (lst done late) y := by
  obtain ⟨x, hx⟩ := List.exists_mem_of_ne_nil _ hne
  obtain ⟨n, hn⟩ := (forms_iff.1 hf).2 x (I.perm.mem_iff.1 (List.mem_append_right _ hx))
  exact I.is_good n hx hn
theorem Inv.parent (I : Inv l0 left done late) {x : CE} (h : good (lst done late) x) : x.after = (0, 0, 0) ∨ ∃ p ∈ done, p.id = x.after := by
  rcases h with h | ⟨m, h⟩
  · exact .inl h
  · obtain ⟨y, hy, e⟩ := fX_some h
    obtain ⟨p, hp, rfl⟩ := List.mem_map.1 (List.mem_of_getElem? hy)
    exact .inr ⟨p, (all_is I.forms).mem_iff.1 hp, ((cl_alike late).id p).symm.trans e⟩
/-- One cell more. -/
theorem Inv.more (I : Inv l0 left done late) (hf : formsB l0 = true) {x : CE} {left' : List CE} (hp : left.Perm (x :: left')) (hg : good (lst done late) x) : formsB (done ++ [x]) = true ∧ (done ++ [x] ++ left').Perm l0 ∧ (∀ y ∈ done, y.id ≠ x.id) := by
  have h1 : (done ++ [x] ++ left').Perm l0 := by
    refine List.Perm.trans ?_ I.perm
    rw [List.append_assoc]
    exact (List.Perm.append_left done hp.symm)
  have hok : Ok (done ++ [x] ++ left') := (forms_iff.1 hf).1.perm h1.symm
  have hok2 : Ok (done ++ [x]) := ⟨fun y hy => hok.valid y (List.mem_append_left _ hy), (List.pairwise_append.1 hok.apart).1⟩
  refine ⟨forms_iff.2 ⟨hok2, fun y hy => ?_⟩, h1, fun y hy e => (List.pairwise_append.1 hok2.ids).2.2 y hy x (by simp) e⟩
  have hm : ∀ z ∈ done, z ∈ done ++ [x] := fun z hz => List.mem_append_left _ hz
  rcases List.mem_append.1 hy with hy | hy
  · obtain ⟨n, hn⟩ := (forms_iff.1 I.forms).2 y hy
    exact ⟨n, lvl_mono hm hn⟩
  · rw [List.mem_singleton.1 hy]
    rcases I.parent hg with h | ⟨p, hp, e⟩
    · exact ⟨0, h⟩
    · obtain ⟨n, hn⟩ := (forms_iff.1 I.forms).2 p hp
      exact ⟨n + 1, p, hm p hp, e, lvl_mono hm hn⟩
theorem Inv.new (I : Inv l0 left done late) {x : CE} (hx : ∀ y ∈ done, y.id ≠ x.id) : ¬ x.id ∈ late := fun h => by
  obtain ⟨y, hy, e, _⟩ := I.late1 _ h
  exact hx y hy e
/-- What Insert answers. -/
theorem Inv.ins (I : Inv l0 left done late) (hf : formsB l0 = true) {x : CE} {left' : List CE} (hp : left.Perm (x :: left')) (hg : good (lst done late) x) : insE (lst done late) (clr x) = 0 ∧ insV (lst done late) (clr x) = lst (done ++ [x]) (x.id :: late) := by
  obtain ⟨h1, h2, h3⟩ := I.more hf hp hg
  have e : lst done late ++ [clr x] = (all done ++ [x]).map (cl (x.id :: late)) := by
    rw [List.map_append, List.map_cons, List.map_nil, cl_yes (late := x.id :: late) (x := x) (by simp)]
    unfold lst
    congr 1
    refine List.map_congr_left fun y hy => ?_
    have hy' := h3 y ((all_is I.forms).mem_iff.1 hy)
    unfold cl
    simp [hy']
  have hq : (all done ++ [x]).Perm (done ++ [x]) := List.Perm.append_right _ (all_is I.forms)
  have hf2 : formsB (lst done late ++ [clr x]) = true := by rw [e, (cl_alike _).forms, forms_perm hq, h1]
  have hf3 : formsB (all done ++ [x]) = true := by rw [forms_perm hq, h1]
  have hg0 : (clr x).gn = false := rfl
  unfold insE insV
  simp only [I.chk, hg0, ne_eq, not_true_eq_false, if_false, Bool.false_eq_true]
  unfold ordE ordV
  rw [if_pos hf2, if_pos hf2]
  refine ⟨rfl, ?_⟩
  rw [e, (cl_alike _).all (forms_iff.1 hf3).1.ids, all_perm (forms_iff.1 hf3).1 hq]
  rfl
theorem lst_same {d : List CE} {a b : List ID} (hd : formsB d = true) (h : ∀ y ∈ d, cl a y = cl b y) : lst d a = lst d b := List.map_congr_left fun y hy => h y ((all_is hd).mem_iff.1 hy)
theorem Inv.stay (I : Inv l0 left done late) (hf : formsB l0 = true) {x : CE} {left' : List CE} (hp : left.Perm (x :: left')) (hg : good (lst done late) x) : Inv l0 left' (done ++ [x]) late := by
  obtain ⟨h1, h2, h3⟩ := I.more hf hp hg
  exact ⟨h2, h1, fun i hi => by
    obtain ⟨y, hy, e⟩ := I.late1 i hi
    exact ⟨y, List.mem_append_left _ hy, e⟩, I.late2⟩
theorem Inv.no_gone (I : Inv l0 left done late) (hf : formsB l0 = true) {x : CE} {left' : List CE} (hp : left.Perm (x :: left')) (hg : good (lst done late) x) (hx : x.gn = false) : lst (done ++ [x]) (x.id :: late) = lst (done ++ [x]) late := by
  obtain ⟨h1, h2, h3⟩ := I.more hf hp hg
  refine lst_same h1 fun y hy => ?_
  rcases List.mem_append.1 hy with hy | hy
  · unfold cl; simp [h3 y hy]
  · rw [List.mem_singleton.1 hy, cl_yes (by simp), cl_no (I.new h3), clr_no hx]
theorem Inv.put (I : Inv l0 left done late) (hf : formsB l0 = true) {x : CE} {left' : List CE} (hp : left.Perm (x :: left')) (hg : good (lst done late) x) (hx : x.gn = true) : Inv l0 left' (done ++ [x]) (late ++ [x.id]) ∧ lst (done ++ [x]) (x.id :: late) = lst (done ++ [x]) (late ++ [x.id]) := by
  obtain ⟨h1, h2, h3⟩ := I.more hf hp hg
  refine ⟨⟨h2, h1, fun i hi => ?_, ?_⟩, lst_same h1 fun y hy => ?_⟩
  · rcases List.mem_append.1 hi with hi | hi
    · obtain ⟨y, hy, e⟩ := I.late1 i hi
      exact ⟨y, List.mem_append_left _ hy, e⟩
    · exact ⟨x, by simp, (List.mem_singleton.1 hi).symm, hx⟩
  · refine List.nodup_append.2 ⟨I.late2, by simp, fun a ha b hb e => ?_⟩
    rw [List.mem_singleton.1 hb] at e
    exact I.new h3 (e ▸ ha)
  · unfold cl
    have : y.id ∈ x.id :: late ↔ y.id ∈ late ++ [x.id] := by simp [or_comm]
    simp only [this]
theorem Inv.erase (I : Inv l0 left done late) (hf : formsB l0 = true) {x : CE} {left' : List CE} (hp : left.Perm (x :: left')) (hg : good (lst done late) x) (hx : x.gn = true) : eraE (lst (done ++ [x]) (x.id :: late)) x.dv x.sq x.at' = 0 ∧ eraV (lst (done ++ [x]) (x.id :: late)) x.dv x.sq x.at' = lst (done ++ [x]) late := by
  obtain ⟨h1, h2, h3⟩ := I.more hf hp hg
  have hc : chkE (lst (done ++ [x]) (x.id :: late)) = 0 := (cl_alike _).chk (ord_ord h1).2.2
  have hmem : cl (x.id :: late) x ∈ lst (done ++ [x]) (x.id :: late) := List.mem_map.2 ⟨x, (all_is h1).mem_iff.2 (by simp), rfl⟩
  obtain ⟨m, hm⟩ := fX_mem hmem (((cl_alike _).id x).trans (rfl : x.id = (x.dv, x.sq, x.at')))
  rcases era_is (i := x.dv) (j := x.sq) (k := x.at') hc with ⟨e1, e2, _⟩ | ⟨_, _, e3⟩
  · refine ⟨e1, e2.trans ?_⟩
    unfold lst
    rw [List.map_map]
    refine List.map_congr_left fun y hy => ?_
    show ers x.id (cl (x.id :: late) y) = cl late y
    rcases List.mem_append.1 ((all_is h1).mem_iff.1 hy) with hy | hy
    · have := h3 y hy
      rw [ers_no (by rw [(cl_alike _).id]; exact this)]
      unfold cl; simp [this]
    · rw [List.mem_singleton.1 hy, ers_yes ((cl_alike _).id x), cl_yes (by simp), cl_no (I.new h3), clr_gone hx]
  · rw [hm] at e3; cases e3
end
/-- The last loop. -/
structure Fin (l0 : List CE) (late : List ID) : Prop where
  f : formsB l0 = true
  late1 : ∀ i ∈ late, ∃ y ∈ l0, y.id = i ∧ y.gn = true
  late2 : late.Nodup
theorem Inv.fin {l0 done : List CE} {late : List ID} (I : Inv l0 [] done late) (hf : formsB l0 = true) : Fin l0 late ∧ lst done late = lst l0 late := by
  have hp : done.Perm l0 := by have := I.perm; rwa [List.append_nil] at this
  refine ⟨⟨hf, fun i hi => ?_, I.late2⟩, ?_⟩
  · obtain ⟨y, hy, e⟩ := I.late1 i hi
    exact ⟨y, hp.mem_iff.1 hy, e⟩
  · unfold lst; rw [all_perm (forms_iff.1 I.forms).1 hp]
theorem Fin.step {l0 : List CE} {i : ID} {late : List ID} (F : Fin l0 (i :: late)) : Fin l0 late ∧ eraE (lst l0 (i :: late)) i.1 i.2.1 i.2.2 = 0 ∧ eraV (lst l0 (i :: late)) i.1 i.2.1 i.2.2 = lst l0 late := by
  obtain ⟨n1, n2⟩ := List.nodup_cons.1 F.late2
  refine ⟨⟨F.f, fun j hj => F.late1 j (List.mem_cons_of_mem _ hj), n2⟩, ?_⟩
  obtain ⟨x, hx, ex, hgx⟩ := F.late1 i (by simp)
  have hc : chkE (lst l0 (i :: late)) = 0 := (cl_alike _).chk (ord_ord F.f).2.2
  have hmem : cl (i :: late) x ∈ lst l0 (i :: late) := List.mem_map.2 ⟨x, (all_is F.f).mem_iff.2 hx, rfl⟩
  obtain ⟨m, hm⟩ := fX_mem (i := i.1) (j := i.2.1) (k := i.2.2) hmem (((cl_alike _).id x).trans ex)
  rcases era_is (i := i.1) (j := i.2.1) (k := i.2.2) hc with ⟨e1, e2, _⟩ | ⟨_, _, e3⟩
  · refine ⟨e1, e2.trans ?_⟩
    unfold lst
    rw [List.map_map]
    refine List.map_congr_left fun y hy => ?_
    show ers i (cl (i :: late) y) = cl late y
    by_cases hy2 : y.id = i
    · have hyl := (all_is F.f).mem_iff.1 hy
      have : y = x := (forms_iff.1 F.f).1.one hyl hx (hy2.trans ex.symm)
      rw [ers_yes (((cl_alike _).id y).trans hy2), cl_yes (by simp [hy2]), cl_no (by rw [hy2]; exact n1), clr_gone (by rw [this]; exact hgx)]
    · rw [ers_no (by rw [(cl_alike _).id]; exact hy2)]
      unfold cl; simp [hy2]
  · rw [hm] at e3; cases e3
theorem lst_nil (l0 : List CE) : lst l0 [] = all l0 := by
  unfold lst
  conv => rhs; rw [← List.map_id (all l0)]
  exact List.map_congr_left fun y _ => cl_no (by simp)
theorem Fin.len {l0 : List CE} {late : List ID} (F : Fin l0 late) : (lst l0 late).length = l0.length := by
  unfold lst; rw [List.length_map, (all_is F.f).length_eq]
theorem Fin.oks {l0 : List CE} {late : List ID} (F : Fin l0 late) (h : OkRs l0) : OkRs (lst l0 late) := cl_oks fun x hx => h x ((all_is F.f).mem_iff.1 hx)
end Go.Sq

/- SEQUENCE, 63: Converges. -/
namespace Go.Sq
set_option maxRecDepth 100000
set_option linter.unusedSimpArgs false
set_option linter.unusedVariables false
open Go Go.Am Go.Proofs Go.Seat

def nxA (arr : List CE) (at0 m0 : Nat) : List CE := List.take (at0 - 0) arr ++ (List.take (m0 - (at0 + 1)) (List.drop (0 + (at0 + 1)) arr) ++ List.drop (at0 - 0 + (List.take (m0 - (at0 + 1)) (List.drop (0 + (at0 + 1)) arr)).length) arr)
def nxN (arr : List CE) (at0 m0 : Nat) : Nat := at0 - 0 + (List.take (m0 - (at0 + 1)) (List.drop (0 + (at0 + 1)) arr)).length
theorem nxN_is {arr : List CE} {at0 m : Nat} (ha : at0 < m + 1) (hm : m + 1 ≤ arr.length) : nxN arr at0 (m + 1) = m := by
  unfold nxN; simp; omega
theorem nxA_len {arr : List CE} {at0 m : Nat} (ha : at0 < m + 1) (hm : m + 1 ≤ arr.length) : (nxA arr at0 (m + 1)).length = arr.length := by
  unfold nxA; simp; omega
theorem nxA_take {arr : List CE} {at0 m : Nat} {x : CE} (ha : at0 < m + 1) (hm : m + 1 ≤ arr.length) (hx : arr[at0]? = some x) : (arr.take (m + 1)).Perm (x :: (nxA arr at0 (m + 1)).take m) := by
  have e1 : (nxA arr at0 (m + 1)).take m = arr.take at0 ++ (arr.drop (at0 + 1)).take (m - at0) := by
    unfold nxA
    rw [← List.append_assoc, List.take_append_of_le_length (by simp; omega), List.take_of_length_le (by simp; omega)]
    simp
  have e2 : arr.take (m + 1) = arr.take at0 ++ (x :: (arr.drop (at0 + 1)).take (m - at0)) := by
    obtain ⟨h, rfl⟩ := List.getElem?_eq_some_iff.1 hx
    have : arr = arr.take at0 ++ (arr[at0] :: arr.drop (at0 + 1)) := by
      rw [← List.drop_eq_getElem_cons h, List.take_append_drop]
    conv => lhs; rw [this]
    rw [List.take_append, List.length_take, Nat.min_eq_left (by omega), List.take_of_length_le (l := arr.take at0) (by simp; omega), show m + 1 - at0 = (m - at0) + 1 by omega, List.take_succ_cons]
  rw [e1, e2]
  exact List.perm_middle
theorem nx_ob {arr : List CE} {at0 m : Nat} (ha : at0 < m + 1) (hm : m + 1 ≤ arr.length) : at0 - 0 + (List.take (m + 1 - (at0 + 1)) (List.drop (0 + (at0 + 1)) (encs arr))).length ≤ (encs arr).length ∧ (List.take (m + 1 - (at0 + 1)) (List.drop (0 + (at0 + 1)) (encs arr))).length = m + 1 - (at0 + 1) := by
  simp [encs_length]; omega
theorem cyc (arr l : List CE) (m0 : Nat) (T : Nat → Nat → Nat → Prop) (hm : m0 ≤ arr.length)
    (hyes : ∀ at0 k x, k < m0 → at0 < m0 → arr[at0]? = some x → good l x → T at0 k at0)
    (hno : ∀ at0 k x at1, k < m0 → at0 < m0 → arr[at0]? = some x → ¬ good l x → T ((at0 + 1) % m0) (k + 1) at1 → T at0 k at1) :
    ∀ j k at0 y, at0 < m0 → k + j < m0 → arr[(at0 + j) % m0]? = some y → good l y → ∃ at1 x, at1 < m0 ∧ arr[at1]? = some x ∧ good l x ∧ T at0 k at1 := by
  intro j
  induction j with
  | zero =>
    intro k at0 y ha hk hy hg
    rw [Nat.add_zero, Nat.mod_eq_of_lt ha] at hy
    exact ⟨at0, y, ha, hy, hg, hyes at0 k y (by omega) ha hy hg⟩
  | succ j ih =>
    intro k at0 y ha hk hy hg
    have hx : arr[at0]? = some (arr[at0]'(by omega)) := List.getElem?_eq_getElem (by omega)
    by_cases hgx : good l (arr[at0]'(by omega))
    · exact ⟨at0, _, ha, hx, hgx, hyes at0 k _ (by omega) ha hx hgx⟩
    · have e : ((at0 + 1) % m0 + j) % m0 = (at0 + (j + 1)) % m0 := by rw [Nat.mod_add_mod]; congr 1; omega
      obtain ⟨at1, x, h1, h2, h3, h4⟩ := ih (k + 1) ((at0 + 1) % m0) y (Nat.mod_lt _ (by omega)) (by omega) (by rw [e]; exact hy) hg
      exact ⟨at1, x, h1, h2, h3, hno at0 k _ at1 (by omega) ha hx hgx h4⟩
theorem cyc_to {a j m0 : Nat} (ha : a < m0) (hj : j < m0) : ∃ i, i < m0 ∧ (a + i) % m0 = j := by
  rcases Nat.lt_or_ge j a with h | h
  · refine ⟨j + m0 - a, by omega, ?_⟩
    rw [show a + (j + m0 - a) = j + m0 by omega, Nat.add_mod_right, Nat.mod_eq_of_lt hj]
  · refine ⟨j - a, by omega, ?_⟩
    rw [show a + (j - a) = j by omega, Nat.mod_eq_of_lt hj]
theorem root_yes {x : CE} (h : x.after = (0, 0, 0)) : (x.ad == 0 && (x.as' == 0 && x.aa == 0)) = true := by
  simp only [CE.after, Prod.mk.injEq] at h
  simp [h.1, h.2.1, h.2.2]
theorem root_no {x : CE} (h : ¬ x.after = (0, 0, 0)) : (x.ad == 0 && (x.as' == 0 && x.aa == 0)) = false := by
  rw [Bool.eq_false_iff]
  intro k
  apply h
  simp only [Bool.and_eq_true, beq_iff_eq] at k
  simp [CE.after, k.1, k.2.1, k.2.2]

theorem inL_run (ps : List Nat) (want l arr : List CE) (n g m0 : Nat) (d : CE) (late : List ID) (g2 : Nat) (hl : m0 ≤ 40) (hm : m0 ≤ arr.length) (hll : l.length ≤ 1000000000) {a0 : Nat} (ha0 : a0 < m0) (hg : ∃ y ∈ arr.take m0, good l y) : ∃ at1 x, at1 < m0 ∧ arr[at1]? = some x ∧ good l x ∧ RunL P G none 0 (loopAt P 6 1) (inL ps want l arr n g m0 d late g2 a0 0) (.exit 2) (inLX ps want l arr n g m0 d late g2 at1) := by
  obtain ⟨y, hy, hgy⟩ := hg
  obtain ⟨j, hj, hyj⟩ := List.getElem_of_mem hy
  have hj' : j < m0 := by rw [List.length_take] at hj; omega
  have hyj' : arr[j]? = some y := by rw [List.getElem?_eq_getElem (by omega), ← hyj, List.getElem_take]
  obtain ⟨i, hi, ei⟩ := cyc_to ha0 hj'
  refine cyc arr l m0 (fun at0 k at1 => RunL P G none 0 (loopAt P 6 1) (inL ps want l arr n g m0 d late g2 at0 k) (.exit 2) (inLX ps want l arr n g m0 d late g2 at1)) hm ?_ ?_ i 0 a0 y ha0 (by omega) (by rw [ei]; exact hyj') hgy
  · intro at0 k x hk ha hx hgx
    have hx' : arr[0 + at0]? = some x := by rw [Nat.zero_add]; exact hx
    have h1 := find_c l x.ad x.as' x.aa hll
    cases hq : fX (pid x.ad x.as' x.aa) l with
    | some m =>
      rw [hq] at h1
      exact iL_f ps want l arr n g m0 d late g2 at0 k m x hk ha hl hm hx' h1 ⟨fun _ => trivial, fun _ => trivial⟩
    | none =>
      rw [hq] at h1
      have hz : x.after = (0, 0, 0) := by
        rcases hgx with h | ⟨m, h⟩
        · exact h
        · rw [hq] at h; cases h
      exact iL_z ps want l arr n g m0 d late g2 at0 k 0 x hk ha hl hm hx' (root_yes hz) h1 trivial
  · intro at0 k x at1 hk ha hx hgx hT
    have hx' : arr[0 + at0]? = some x := by rw [Nat.zero_add]; exact hx
    have h1 := find_c l x.ad x.as' x.aa hll
    cases hq : fX (pid x.ad x.as' x.aa) l with
    | some m => exact absurd (.inr ⟨m, hq⟩) hgx
    | none =>
      rw [hq] at h1
      exact iL_n ps want l arr n g m0 d late g2 at0 k 0 x hk ha hl hm hx' (root_no fun h => hgx (.inl h)) h1 _ _ hT

theorem inN_run (ps : List Nat) (want l arr : List CE) (n g m0 : Nat) (hl : m0 ≤ 40) (hm : m0 ≤ arr.length) (hll : l.length ≤ 1000000000) {a0 : Nat} (ha0 : a0 < m0) (hg : ∃ y ∈ arr.take m0, good l y) : ∃ at1 x, at1 < m0 ∧ arr[at1]? = some x ∧ good l x ∧ RunL P G none 0 (loopAt P 6 1) (inN ps want l arr n g m0 a0 0) (.exit 2) (inNX ps want l arr n g m0 at1) := by
  obtain ⟨y, hy, hgy⟩ := hg
  obtain ⟨j, hj, hyj⟩ := List.getElem_of_mem hy
  have hj' : j < m0 := by rw [List.length_take] at hj; omega
  have hyj' : arr[j]? = some y := by rw [List.getElem?_eq_getElem (by omega), ← hyj, List.getElem_take]
  obtain ⟨i, hi, ei⟩ := cyc_to ha0 hj'
  refine cyc arr l m0 (fun at0 k at1 => RunL P G none 0 (loopAt P 6 1) (inN ps want l arr n g m0 at0 k) (.exit 2) (inNX ps want l arr n g m0 at1)) hm ?_ ?_ i 0 a0 y ha0 (by omega) (by rw [ei]; exact hyj') hgy
  · intro at0 k x hk ha hx hgx
    have hx' : arr[0 + at0]? = some x := by rw [Nat.zero_add]; exact hx
    have h1 := find_c l x.ad x.as' x.aa hll
    cases hq : fX (pid x.ad x.as' x.aa) l with
    | some m =>
      rw [hq] at h1
      exact iN_f ps want l arr n g m0 at0 k m x hk ha hl hm hx' h1 ⟨fun _ => trivial, fun _ => trivial⟩
    | none =>
      rw [hq] at h1
      have hz : x.after = (0, 0, 0) := by
        rcases hgx with h | ⟨m, h⟩
        · exact h
        · rw [hq] at h; cases h
      exact iN_z ps want l arr n g m0 at0 k 0 x hk ha hl hm hx' (root_yes hz) h1 trivial
  · intro at0 k x at1 hk ha hx hgx hT
    have hx' : arr[0 + at0]? = some x := by rw [Nat.zero_add]; exact hx
    have h1 := find_c l x.ad x.as' x.aa hll
    cases hq : fX (pid x.ad x.as' x.aa) l with
    | some m => exact absurd (.inr ⟨m, hq⟩) hgx
    | none =>
      rw [hq] at h1
      exact iN_n ps want l arr n g m0 at0 k 0 x hk ha hl hm hx' (root_no fun h => hgx (.inl h)) h1 _ _ hT

theorem Inv.oks' {l0 left done : List CE} {late : List ID} (I : Inv l0 left done late) (h : OkRs l0) {y : CE} (hy : y ∈ all done) : OkR y := h y (I.perm.mem_iff.1 (List.mem_append_left _ ((all_is I.forms).mem_iff.1 hy)))

theorem outL (l0 : List CE) (hf : formsB l0 = true) (hR : OkRs l0) (h40 : l0.length ≤ 40) (ps : List Nat) (hps : ∀ t ∈ ps, t < 256) (want : List CE) : ∀ (m : Nat) (arr : List CE) (n g : Nat) (d : CE) (late : List ID) (g2 : Nat) (done : List CE), Inv l0 (arr.take m) done late → m ≤ arr.length → arr.length ≤ 40 → n + m ≤ 40 → late.length ≤ n → ∃ arr1 g1 d1 late1 g3, Fin l0 late1 ∧ RunL P G none 0 (loopAt P 6 0) (ouL ps want (lst done late) arr n g m d late g2) (.exit 0) (enL want (lst l0 late1) arr1 g1 d1 late1 g3) := by
  intro m
  induction m with
  | zero =>
    intro arr n g d late g2 done I hm har hn hlate
    rw [List.take_zero] at I
    obtain ⟨F, e⟩ := I.fin hf
    rw [e]
    exact ⟨arr, g, d, late, g2, F, cv_eL ps want _ arr n g 0 d late g2 rfl trivial⟩
  | succ m ih =>
    intro arr n g d late g2 done I hm har hn hlate
    have hlen0 := I.len0
    have hlen := I.len
    have hlt : (arr.take (m + 1)).length = m + 1 := by rw [List.length_take]; omega
    have hgo := I.some_good hf (fun e => by rw [e] at hlt; cases hlt)
    have hll : (lst done late).length ≤ 40 := by omega
    have hRl := I.oks hR
    have main : ∀ a0, a0 < m + 1 → (∀ (Q : Prop), (∀ (at1 : Nat) (x : CE), at1 < m + 1 → arr[at1]? = some x → good (lst done late) x → RunL P G none 0 (loopAt P 6 1) (inL ps want (lst done late) arr n g (m + 1) d late g2 a0 0) (.exit 2) (inLX ps want (lst done late) arr n g (m + 1) d late g2 at1) → Q) → Q) := fun a0 ha0 Q k => by
      obtain ⟨at1, x, h1, h2, h3, h4⟩ := inL_run ps want (lst done late) arr n g (m + 1) d late g2 (by omega) hm (by omega) ha0 hgo
      exact k at1 x h1 h2 h3 h4
    by_cases hn2 : n < ps.length
    · obtain ⟨t, ht⟩ : ∃ t, ps[n]? = some t := ⟨_, List.getElem?_eq_getElem hn2⟩
      refine main (t % (m + 1)) (Nat.mod_lt _ (by omega)) _ fun at1 x ha hx hgx hIn => ?_
      have hx' : arr[0 + at1]? = some x := by rw [Nat.zero_add]; exact hx
      have hp := nxA_take ha hm hx
      have hn1 := nxN_is ha hm
      have hn2' := nxA_len ha hm
      obtain ⟨ob1, ob2⟩ := nx_ob ha hm
      obtain ⟨i1, i2⟩ := I.ins hf hp hgx
      have hI := ins_c (lst done late) (clr x) (by omega) hRl (hR x (I.perm.mem_iff.1 (List.mem_append_right _ (hp.mem_iff.2 (by simp)))))
      rw [i1, i2] at hI
      have I2 := I.stay hf hp hgx
      have hl2 : (lst (done ++ [x]) (x.id :: late)).length = (lst done late).length + 1 := by
        have q1 := I2.len
        have q2 : (lst (done ++ [x]) (x.id :: late)).length = (lst (done ++ [x]) late).length := by unfold lst; rw [List.length_map, List.length_map]
        rw [q2, q1, hlen, List.length_append, List.length_singleton]
      cases hgn : x.gn with
      | false =>
        obtain ⟨arr1, g1, d1, late1, g3, F1, R1⟩ := ih (nxA arr at1 (m + 1)) (n + 1) (g + 1) d late g2 (done ++ [x]) I2 (by omega) (by omega) (by omega) (by omega)
        rw [← I.no_gone hf hp hgx hgn] at R1
        refine ⟨arr1, g1, d1, late1, g3, F1, oLP_a ps want (lst done late) arr n g (m + 1) d late g2 at1 x (lst (done ++ [x]) (x.id :: late)) (by omega) (by omega) ha hm har t hn2 ht (by omega) (hps t (List.mem_of_getElem? ht)) hx' hll hl2 hIn hI hgn _ _ ⟨ob1, ob2, ?_⟩⟩
        show RunL P G none 0 _ (ouL ps want _ (nxA arr at1 (m + 1)) (n + 1) (g + 1) (nxN arr at1 (m + 1)) d late g2) _ _
        rw [hn1]; exact R1
      | true =>
        by_cases he : Int.tmod (n : Int) 2 = 0
        · obtain ⟨I3, e3⟩ := I.put hf hp hgx hgn
          obtain ⟨arr1, g1, d1, late1, g3, F1, R1⟩ := ih (nxA arr at1 (m + 1)) (n + 1) (g + 1) d (late ++ [x.id]) (g2 + 1) (done ++ [x]) I3 (by omega) (by omega) (by omega) (by rw [List.length_append, List.length_singleton]; omega)
          rw [← e3] at R1
          refine ⟨arr1, g1, d1, late1, g3, F1, oLP_e ps want (lst done late) arr n g (m + 1) d late g2 at1 x (lst (done ++ [x]) (x.id :: late)) (by omega) (by omega) ha hm har t hn2 ht (by omega) (hps t (List.mem_of_getElem? ht)) hx' hll hl2 hIn hI hgn he (by omega) _ _ ⟨ob1, ob2, ?_⟩⟩
          show RunL P G none 0 _ (ouL ps want _ (nxA arr at1 (m + 1)) (n + 1) (g + 1) (nxN arr at1 (m + 1)) d (late ++ [x.id]) (g2 + 1)) _ _
          rw [hn1]; exact R1
        · obtain ⟨r1, r2⟩ := I.erase hf hp hgx hgn
          have hE := era_c (lst (done ++ [x]) (x.id :: late)) x.dv x.sq x.at' (by omega) (cl_oks fun y hy => I2.oks' hR hy)
          rw [r1, r2] at hE
          obtain ⟨arr1, g1, d1, late1, g3, F1, R1⟩ := ih (nxA arr at1 (m + 1)) (n + 1) (g + 1) d late g2 (done ++ [x]) I2 (by omega) (by omega) (by omega) (by omega)
          refine ⟨arr1, g1, d1, late1, g3, F1, oLP_o ps want (lst done late) arr n g (m + 1) d late g2 at1 x (lst (done ++ [x]) (x.id :: late)) (by omega) (by omega) ha hm har t hn2 ht (by omega) (hps t (List.mem_of_getElem? ht)) hx' hll hl2 hIn hI _ hgn he hE _ _ ⟨ob1, ob2, ?_⟩⟩
          show RunL P G none 0 _ (ouL ps want _ (nxA arr at1 (m + 1)) (n + 1) (g + 1) (nxN arr at1 (m + 1)) d late g2) _ _
          rw [hn1]; exact R1
    · refine main 0 (by omega) _ fun at1 x ha hx hgx hIn => ?_
      have hx' : arr[0 + at1]? = some x := by rw [Nat.zero_add]; exact hx
      have hp := nxA_take ha hm hx
      have hn1 := nxN_is ha hm
      have hn2' := nxA_len ha hm
      obtain ⟨ob1, ob2⟩ := nx_ob ha hm
      obtain ⟨i1, i2⟩ := I.ins hf hp hgx
      have hI := ins_c (lst done late) (clr x) (by omega) hRl (hR x (I.perm.mem_iff.1 (List.mem_append_right _ (hp.mem_iff.2 (by simp)))))
      rw [i1, i2] at hI
      have I2 := I.stay hf hp hgx
      have hl2 : (lst (done ++ [x]) (x.id :: late)).length = (lst done late).length + 1 := by
        have q1 := I2.len
        have q2 : (lst (done ++ [x]) (x.id :: late)).length = (lst (done ++ [x]) late).length := by unfold lst; rw [List.length_map, List.length_map]
        rw [q2, q1, hlen, List.length_append, List.length_singleton]
      cases hgn : x.gn with
      | false =>
        obtain ⟨arr1, g1, d1, late1, g3, F1, R1⟩ := ih (nxA arr at1 (m + 1)) (n + 1) (g + 1) d late g2 (done ++ [x]) I2 (by omega) (by omega) (by omega) (by omega)
        rw [← I.no_gone hf hp hgx hgn] at R1
        refine ⟨arr1, g1, d1, late1, g3, F1, oLQ_a ps want (lst done late) arr n g (m + 1) d late g2 at1 x (lst (done ++ [x]) (x.id :: late)) (by omega) (by omega) ha hm har (by omega) (by omega) hx' hll hl2 hIn hI hgn _ _ ⟨ob1, ob2, ?_⟩⟩
        show RunL P G none 0 _ (ouL ps want _ (nxA arr at1 (m + 1)) (n + 1) (g + 1) (nxN arr at1 (m + 1)) d late g2) _ _
        rw [hn1]; exact R1
      | true =>
        by_cases he : Int.tmod (n : Int) 2 = 0
        · obtain ⟨I3, e3⟩ := I.put hf hp hgx hgn
          obtain ⟨arr1, g1, d1, late1, g3, F1, R1⟩ := ih (nxA arr at1 (m + 1)) (n + 1) (g + 1) d (late ++ [x.id]) (g2 + 1) (done ++ [x]) I3 (by omega) (by omega) (by omega) (by rw [List.length_append, List.length_singleton]; omega)
          rw [← e3] at R1
          refine ⟨arr1, g1, d1, late1, g3, F1, oLQ_e ps want (lst done late) arr n g (m + 1) d late g2 at1 x (lst (done ++ [x]) (x.id :: late)) (by omega) (by omega) ha hm har (by omega) (by omega) hx' hll hl2 hIn hI hgn he (by omega) _ _ ⟨ob1, ob2, ?_⟩⟩
          show RunL P G none 0 _ (ouL ps want _ (nxA arr at1 (m + 1)) (n + 1) (g + 1) (nxN arr at1 (m + 1)) d (late ++ [x.id]) (g2 + 1)) _ _
          rw [hn1]; exact R1
        · obtain ⟨r1, r2⟩ := I.erase hf hp hgx hgn
          have hE := era_c (lst (done ++ [x]) (x.id :: late)) x.dv x.sq x.at' (by omega) (cl_oks fun y hy => I2.oks' hR hy)
          rw [r1, r2] at hE
          obtain ⟨arr1, g1, d1, late1, g3, F1, R1⟩ := ih (nxA arr at1 (m + 1)) (n + 1) (g + 1) d late g2 (done ++ [x]) I2 (by omega) (by omega) (by omega) (by omega)
          refine ⟨arr1, g1, d1, late1, g3, F1, oLQ_o ps want (lst done late) arr n g (m + 1) d late g2 at1 x (lst (done ++ [x]) (x.id :: late)) (by omega) (by omega) ha hm har (by omega) (by omega) hx' hll hl2 hIn hI _ hgn he hE _ _ ⟨ob1, ob2, ?_⟩⟩
          show RunL P G none 0 _ (ouL ps want _ (nxA arr at1 (m + 1)) (n + 1) (g + 1) (nxN arr at1 (m + 1)) d late g2) _ _
          rw [hn1]; exact R1

theorem outN (l0 : List CE) (hf : formsB l0 = true) (hR : OkRs l0) (h40 : l0.length ≤ 40) (ps : List Nat) (hps : ∀ t ∈ ps, t < 256) (want : List CE) : ∀ (m : Nat) (arr : List CE) (n g : Nat) (done : List CE), Inv l0 (arr.take m) done [] → m ≤ arr.length → arr.length ≤ 40 → n + m ≤ 40 → RunL P G none 0 (loopAt P 6 0) (ouN ps want (lst done []) arr n g m) (.exit 0) (enN want (lst l0 [])) ∨ ∃ arr1 g1 d1 late1 g3, Fin l0 late1 ∧ RunL P G none 0 (loopAt P 6 0) (ouN ps want (lst done []) arr n g m) (.exit 0) (enL want (lst l0 late1) arr1 g1 d1 late1 g3) := by
  intro m
  induction m with
  | zero =>
    intro arr n g done I hm har hn
    rw [List.take_zero] at I
    obtain ⟨F, e⟩ := I.fin hf
    rw [e]
    exact .inl (cv_eN ps want _ arr n g 0 rfl trivial)
  | succ m ih =>
    intro arr n g done I hm har hn
    have hlen0 := I.len0
    have hlen := I.len
    have hlt : (arr.take (m + 1)).length = m + 1 := by rw [List.length_take]; omega
    have hgo := I.some_good hf (fun e => by rw [e] at hlt; cases hlt)
    have hll : (lst done []).length ≤ 40 := by omega
    have hRl := I.oks hR
    have main : ∀ a0, a0 < m + 1 → (∀ (Q : Prop), (∀ (at1 : Nat) (x : CE), at1 < m + 1 → arr[at1]? = some x → good (lst done []) x → RunL P G none 0 (loopAt P 6 1) (inN ps want (lst done []) arr n g (m + 1) a0 0) (.exit 2) (inNX ps want (lst done []) arr n g (m + 1) at1) → Q) → Q) := fun a0 ha0 Q k => by
      obtain ⟨at1, x, h1, h2, h3, h4⟩ := inN_run ps want (lst done []) arr n g (m + 1) (by omega) hm (by omega) ha0 hgo
      exact k at1 x h1 h2 h3 h4
    by_cases hn2 : n < ps.length
    · obtain ⟨t, ht⟩ : ∃ t, ps[n]? = some t := ⟨_, List.getElem?_eq_getElem hn2⟩
      refine main (t % (m + 1)) (Nat.mod_lt _ (by omega)) _ fun at1 x ha hx hgx hIn => ?_
      have hx' : arr[0 + at1]? = some x := by rw [Nat.zero_add]; exact hx
      have hp := nxA_take ha hm hx
      have hn1 := nxN_is ha hm
      have hn2' := nxA_len ha hm
      obtain ⟨ob1, ob2⟩ := nx_ob ha hm
      obtain ⟨i1, i2⟩ := I.ins hf hp hgx
      have hI := ins_c (lst done []) (clr x) (by omega) hRl (hR x (I.perm.mem_iff.1 (List.mem_append_right _ (hp.mem_iff.2 (by simp)))))
      rw [i1, i2] at hI
      have I2 := I.stay hf hp hgx
      have hl2 : (lst (done ++ [x]) (x.id :: [])).length = (lst done []).length + 1 := by
        have q1 := I2.len
        have q2 : (lst (done ++ [x]) (x.id :: [])).length = (lst (done ++ [x]) []).length := by unfold lst; rw [List.length_map, List.length_map]
        rw [q2, q1, hlen, List.length_append, List.length_singleton]
      cases hgn : x.gn with
      | false =>
        rcases ih (nxA arr at1 (m + 1)) (n + 1) (g + 1) (done ++ [x]) I2 (by omega) (by omega) (by omega) with R1 | ⟨arr1, g1, d1, late1, g3, F1, R1⟩
        · rw [← I.no_gone hf hp hgx hgn] at R1; refine .inl (oNP_a ps want (lst done []) arr n g (m + 1) at1 x (lst (done ++ [x]) (x.id :: [])) (by omega) (by omega) ha hm har t hn2 ht (by omega) (hps t (List.mem_of_getElem? ht)) hx' hll hl2 hIn hI hgn _ _ ⟨ob1, ob2, ?_⟩)
          show RunL P G none 0 _ (ouN ps want _ (nxA arr at1 (m + 1)) (n + 1) (g + 1) (nxN arr at1 (m + 1))) _ _
          rw [hn1]; exact R1
        · rw [← I.no_gone hf hp hgx hgn] at R1; refine .inr ⟨arr1, g1, d1, late1, g3, F1, oNP_a ps want (lst done []) arr n g (m + 1) at1 x (lst (done ++ [x]) (x.id :: [])) (by omega) (by omega) ha hm har t hn2 ht (by omega) (hps t (List.mem_of_getElem? ht)) hx' hll hl2 hIn hI hgn _ _ ⟨ob1, ob2, ?_⟩⟩
          show RunL P G none 0 _ (ouN ps want _ (nxA arr at1 (m + 1)) (n + 1) (g + 1) (nxN arr at1 (m + 1))) _ _
          rw [hn1]; exact R1
      | true =>
        by_cases he : Int.tmod (n : Int) 2 = 0
        · obtain ⟨I3, e3⟩ := I.put hf hp hgx hgn
          obtain ⟨arr1, g1, d1, late1, g3, F1, R1⟩ := outL l0 hf hR h40 ps hps want m (nxA arr at1 (m + 1)) (n + 1) (g + 1) (clr x) ([] ++ [x.id]) 0 (done ++ [x]) I3 (by omega) (by omega) (by omega) (by rw [List.length_append, List.length_singleton, List.length_nil]; omega)
          rw [← e3] at R1
          refine .inr ⟨arr1, g1, d1, late1, g3, F1, oNP_e ps want (lst done []) arr n g (m + 1) at1 x (lst (done ++ [x]) (x.id :: [])) (by omega) (by omega) ha hm har t hn2 ht (by omega) (hps t (List.mem_of_getElem? ht)) hx' hll hl2 hIn hI hgn he _ _ ⟨ob1, ob2, ?_⟩⟩
          show RunL P G none 0 _ (ouL ps want _ (nxA arr at1 (m + 1)) (n + 1) (g + 1) (nxN arr at1 (m + 1)) (clr x) [x.id] 0) _ _
          rw [hn1]; exact R1
        · obtain ⟨r1, r2⟩ := I.erase hf hp hgx hgn
          have hE := era_c (lst (done ++ [x]) (x.id :: [])) x.dv x.sq x.at' (by omega) (cl_oks fun y hy => I2.oks' hR hy)
          rw [r1, r2] at hE
          rcases ih (nxA arr at1 (m + 1)) (n + 1) (g + 1) (done ++ [x]) I2 (by omega) (by omega) (by omega) with R1 | ⟨arr1, g1, d1, late1, g3, F1, R1⟩
          · refine .inl (oNP_o ps want (lst done []) arr n g (m + 1) at1 x (lst (done ++ [x]) (x.id :: [])) (by omega) (by omega) ha hm har t hn2 ht (by omega) (hps t (List.mem_of_getElem? ht)) hx' hll hl2 hIn hI _ hgn he hE _ _ ⟨ob1, ob2, ?_⟩)
            show RunL P G none 0 _ (ouN ps want _ (nxA arr at1 (m + 1)) (n + 1) (g + 1) (nxN arr at1 (m + 1))) _ _
            rw [hn1]; exact R1
          · refine .inr ⟨arr1, g1, d1, late1, g3, F1, oNP_o ps want (lst done []) arr n g (m + 1) at1 x (lst (done ++ [x]) (x.id :: [])) (by omega) (by omega) ha hm har t hn2 ht (by omega) (hps t (List.mem_of_getElem? ht)) hx' hll hl2 hIn hI _ hgn he hE _ _ ⟨ob1, ob2, ?_⟩⟩
            show RunL P G none 0 _ (ouN ps want _ (nxA arr at1 (m + 1)) (n + 1) (g + 1) (nxN arr at1 (m + 1))) _ _
            rw [hn1]; exact R1
    · refine main 0 (by omega) _ fun at1 x ha hx hgx hIn => ?_
      have hx' : arr[0 + at1]? = some x := by rw [Nat.zero_add]; exact hx
      have hp := nxA_take ha hm hx
      have hn1 := nxN_is ha hm
      have hn2' := nxA_len ha hm
      obtain ⟨ob1, ob2⟩ := nx_ob ha hm
      obtain ⟨i1, i2⟩ := I.ins hf hp hgx
      have hI := ins_c (lst done []) (clr x) (by omega) hRl (hR x (I.perm.mem_iff.1 (List.mem_append_right _ (hp.mem_iff.2 (by simp)))))
      rw [i1, i2] at hI
      have I2 := I.stay hf hp hgx
      have hl2 : (lst (done ++ [x]) (x.id :: [])).length = (lst done []).length + 1 := by
        have q1 := I2.len
        have q2 : (lst (done ++ [x]) (x.id :: [])).length = (lst (done ++ [x]) []).length := by unfold lst; rw [List.length_map, List.length_map]
        rw [q2, q1, hlen, List.length_append, List.length_singleton]
      cases hgn : x.gn with
      | false =>
        rcases ih (nxA arr at1 (m + 1)) (n + 1) (g + 1) (done ++ [x]) I2 (by omega) (by omega) (by omega) with R1 | ⟨arr1, g1, d1, late1, g3, F1, R1⟩
        · rw [← I.no_gone hf hp hgx hgn] at R1; refine .inl (oNQ_a ps want (lst done []) arr n g (m + 1) at1 x (lst (done ++ [x]) (x.id :: [])) (by omega) (by omega) ha hm har (by omega) (by omega) hx' hll hl2 hIn hI hgn _ _ ⟨ob1, ob2, ?_⟩)
          show RunL P G none 0 _ (ouN ps want _ (nxA arr at1 (m + 1)) (n + 1) (g + 1) (nxN arr at1 (m + 1))) _ _
          rw [hn1]; exact R1
        · rw [← I.no_gone hf hp hgx hgn] at R1; refine .inr ⟨arr1, g1, d1, late1, g3, F1, oNQ_a ps want (lst done []) arr n g (m + 1) at1 x (lst (done ++ [x]) (x.id :: [])) (by omega) (by omega) ha hm har (by omega) (by omega) hx' hll hl2 hIn hI hgn _ _ ⟨ob1, ob2, ?_⟩⟩
          show RunL P G none 0 _ (ouN ps want _ (nxA arr at1 (m + 1)) (n + 1) (g + 1) (nxN arr at1 (m + 1))) _ _
          rw [hn1]; exact R1
      | true =>
        by_cases he : Int.tmod (n : Int) 2 = 0
        · obtain ⟨I3, e3⟩ := I.put hf hp hgx hgn
          obtain ⟨arr1, g1, d1, late1, g3, F1, R1⟩ := outL l0 hf hR h40 ps hps want m (nxA arr at1 (m + 1)) (n + 1) (g + 1) (clr x) ([] ++ [x.id]) 0 (done ++ [x]) I3 (by omega) (by omega) (by omega) (by rw [List.length_append, List.length_singleton, List.length_nil]; omega)
          rw [← e3] at R1
          refine .inr ⟨arr1, g1, d1, late1, g3, F1, oNQ_e ps want (lst done []) arr n g (m + 1) at1 x (lst (done ++ [x]) (x.id :: [])) (by omega) (by omega) ha hm har (by omega) (by omega) hx' hll hl2 hIn hI hgn he _ _ ⟨ob1, ob2, ?_⟩⟩
          show RunL P G none 0 _ (ouL ps want _ (nxA arr at1 (m + 1)) (n + 1) (g + 1) (nxN arr at1 (m + 1)) (clr x) [x.id] 0) _ _
          rw [hn1]; exact R1
        · obtain ⟨r1, r2⟩ := I.erase hf hp hgx hgn
          have hE := era_c (lst (done ++ [x]) (x.id :: [])) x.dv x.sq x.at' (by omega) (cl_oks fun y hy => I2.oks' hR hy)
          rw [r1, r2] at hE
          rcases ih (nxA arr at1 (m + 1)) (n + 1) (g + 1) (done ++ [x]) I2 (by omega) (by omega) (by omega) with R1 | ⟨arr1, g1, d1, late1, g3, F1, R1⟩
          · refine .inl (oNQ_o ps want (lst done []) arr n g (m + 1) at1 x (lst (done ++ [x]) (x.id :: [])) (by omega) (by omega) ha hm har (by omega) (by omega) hx' hll hl2 hIn hI _ hgn he hE _ _ ⟨ob1, ob2, ?_⟩)
            show RunL P G none 0 _ (ouN ps want _ (nxA arr at1 (m + 1)) (n + 1) (g + 1) (nxN arr at1 (m + 1))) _ _
            rw [hn1]; exact R1
          · refine .inr ⟨arr1, g1, d1, late1, g3, F1, oNQ_o ps want (lst done []) arr n g (m + 1) at1 x (lst (done ++ [x]) (x.id :: [])) (by omega) (by omega) ha hm har (by omega) (by omega) hx' hll hl2 hIn hI _ hgn he hE _ _ ⟨ob1, ob2, ?_⟩⟩
            show RunL P G none 0 _ (ouN ps want _ (nxA arr at1 (m + 1)) (n + 1) (g + 1) (nxN arr at1 (m + 1))) _ _
            rw [hn1]; exact R1
end Go.Sq

/- SEQUENCE, 64: Converges holds. -/
namespace Go.Sq
set_option maxRecDepth 100000
set_option linter.unusedSimpArgs false
set_option linter.unusedVariables false
open Go Go.Am Go.Proofs Go.Seat

theorem Fin.late_len {l0 : List CE} {late : List ID} (F : Fin l0 late) : late.length ≤ l0.length := by
  have := nodup_len (l := l0.map CE.id) F.late2 fun i hi => by
    obtain ⟨y, hy, e, _⟩ := F.late1 i hi
    exact List.mem_map.2 ⟨y, hy, e⟩
  rwa [List.length_map] at this
theorem la_run (l0 : List CE) (hR : OkRs l0) (h40 : l0.length ≤ 40) (want arr : List CE) (g : Nat) (d : CE) (late : List ID) (g2 : Nat) (hla : late.length ≤ 40) : ∀ j k, k + j = late.length → Fin l0 (late.drop k) → RunL P G none 0 (loopAt P 6 2) (laL want (lst l0 (late.drop k)) arr g d late g2 k) (.exit 4) (laX want (all l0)) := by
  intro j
  induction j with
  | zero =>
    intro k hk F
    obtain rfl : k = late.length := by omega
    rw [List.drop_length, lst_nil]
    exact la_e want _ arr g d late g2 late.length (Nat.le_refl _) trivial
  | succ j ih =>
    intro k hk F
    have hlt : k < late.length := by omega
    have e := List.drop_eq_getElem_cons hlt
    have hx : late[0 + k]? = some ((late[k]).1, (late[k]).2.1, (late[k]).2.2) := by rw [Nat.zero_add]; exact List.getElem?_eq_getElem hlt
    rw [e] at F ⊢
    obtain ⟨F2, s1, s2⟩ := F.step
    have hE := era_c (lst l0 (late[k] :: late.drop (k + 1))) (late[k]).1 (late[k]).2.1 (late[k]).2.2 (by have := F.len; omega) (F.oks hR)
    rw [s1, s2] at hE
    exact la_r want _ arr g d late g2 k hla hlt _ _ _ _ hx hE _ _ (ih (k + 1) (by omega) F2)
theorem spec_converges (l0 : List CE) (ps : List Nat) (hR : OkRs l0) (hps : ∀ t ∈ ps, t < 256) : CallC P G 6 [ces l0, pks ps] [] (.ret (bool true)) [] := by
  by_cases h40 : l0.length ≤ 40
  · have ho := order_c l0 (by omega) hR
    rcases forms_or l0 with ⟨f1, f2, f3⟩ | ⟨f1, f2, f3⟩
    · rw [f2, f3] at ho
      by_cases h0 : l0 = []
      · subst h0
        exact cv_n ps (same_self [] (by decide)) (few_yes h40) ho trivial
      · have hpos : 0 < l0.length := List.length_pos_iff.2 h0
        have hne : ¬ encs l0 = [] := fun e => h0 (by have := congrArg List.length e; rw [encs_length] at this; exact List.length_eq_zero_iff.1 this)
        have I : Inv l0 (l0.take l0.length) [] [] := ⟨by rw [List.take_length]; exact List.Perm.refl _, rfl, (fun i hi => by cases hi), List.nodup_nil⟩
        have hlen : (all l0).length = l0.length := (all_is f1).length_eq
        have pre : SubS (ou0 ps (all l0) l0) (ouN ps (all l0) (lst [] []) l0 0 0 l0.length) := SubS.slots ⟨rfl, .refl _, rfl, .refl _, rfl, Sub.nil 9, rfl, .refl _, rfl, .refl _, rfl, .refl _, trivial⟩
        rcases outN l0 f1 hR h40 ps hps (all l0) l0.length l0 0 0 [] I (Nat.le_refl _) h40 (by omega) with R | ⟨arr, g, d, late, g2, F, R⟩
        · rw [lst_nil l0] at R
          exact cv_gN ps l0 (all l0) (all l0) h40 hpos hne (few_yes h40) ho (R.pre pre) (same_self _ (by omega)) trivial
        · have hla := F.late_len
          exact cv_gL ps l0 (all l0) (lst l0 late) arr (all l0) d late g g2 h40 hpos hne (few_yes h40) ho (R.pre pre) (la_run l0 hR h40 (all l0) arr g d late g2 (by omega) late.length 0 (by omega) F) (same_self _ (by omega)) trivial
    · rw [f2, f3] at ho
      exact cv_b l0 ps (few_yes h40) ho trivial
  · exact cv_0 l0 ps (few_no h40) trivial
end Go.Sq

/- SEQUENCE, 65: Converges, as it is closed. -/
namespace Go.Sq
set_option maxRecDepth 100000
set_option linter.unusedSimpArgs false
set_option linter.unusedVariables false
open Go Go.Am Go.Proofs Go.Seat
theorem cz44 : Try.prog.cellsOf 44 = 1 := by kernel_rfl
noncomputable def cPicks : Cod Try.prog 44 (List Nat) := Cod.slice Try.underlying44 cz44 (by rw [cz5]; decide) cU8n
theorem cPicks_enc (v : List Nat) : cPicks.enc v = [pks v] := by
  show [AV.sl (Try.prog.cellsOf 5) false (v.map cU8n.enc)] = [AV.sl 1 false (v.map pk1)]
  rw [cz5]; rfl
theorem reads_picks {H : Type} {enc : TypeId × Value → H} {W : World} {base : Nat} {v : Value} {d : DataW H} {ps : List MemPlace} (hv : Value.okWide Try.prog W .any base 44 v) (h : DataW.Trod enc Try.prog W 0 (fun _ => true) true 44 v d ps) : ∃ l : List Nat, (∀ t ∈ l, t < 256) ∧ Rep (view0 W) (pks l) v := by
  obtain ⟨a, h1, h2⟩ := cPicks.one (by kernel_rfl) hv h cPicks_enc
  exact ⟨a, fun t ht => h1.2 t ht, h2⟩
theorem converges_h (l : List CE) (ps : List Nat) (h : OkRs l) (hp : ∀ t ∈ ps, t < 256) : CallC P G 6 [ces l, pks ps] [] (.ret (Am.bool true)) [] := spec_converges l ps h hp
end Go.Sq
