import Derived.Test.YtefamlckjpbcoaaG17
import Derived.DeepKeys4
import Derived.Maps.Keyed
import Derived.KernelRfl
set_option maxRecDepth 100000
set_option linter.unusedSimpArgs false
set_option linter.unusedVariables false
/- SEQUENCE, 18: keys; the family of rows; the pieces of below. -/
namespace Go.Sq
open Go Go.Am Go.Proofs Go.Seat

def idV (a b c : Int) : Value := .agg #[.int .i64 a, .int .i64 b, .int .i64 c]
def dotV (a b : Int) : Value := .agg #[.int .i64 a, .int .i64 b]
theorem laid : laidOutB P = true := by kernel_rfl
theorem keyedI : Maps.Keyed P 31 := Maps.Keyed.of_law (deep_law_laid laid (m := 2) (by decide) (Nat.le_of_ble_eq_true (by kernel_rfl)) (by kernel_rfl) (by kernel_rfl))
theorem keyedD : Maps.Keyed P 57 := Maps.Keyed.of_law (deep_law_laid laid (m := 2) (by decide) (Nat.le_of_ble_eq_true (by kernel_rfl)) (by kernel_rfl) (by kernel_rfl))
def InR (n : Int) : Prop := -9223372036854775808 ≤ n ∧ n < 9223372036854775808
theorem InR.wf {n : Int} (h : InR n) : (Lit.int .i64 n).wf = true := by
  unfold InR at h
  simp [Lit.wf, IntKind.min, IntKind.max, IntKind.signed, IntKind.bits]; omega
theorem lits1 (d : Nat) {n : Int} (h : InR n) : P.keyLits (d + 1) 3 [.int .i64 n] = some [.int .i64 n] := by
  simp [Program.keyLits, Try.underlying3, h.wf]
theorem sz1 : ∃ n, P.types.size = n + 1 := by
  have h : 1 ≤ P.types.size := Nat.le_of_ble_eq_true (by kernel_rfl)
  exact ⟨P.types.size - 1, by omega⟩
theorem keyI {a b c : Int} (ha : InR a) (hb : InR b) (hc : InR c) : ∃ l, keyOf P 31 (idV a b c) = some l := by
  have h1 : (P.keyType 31 && (idV a b c).formed P 31) = true := by kernel_rfl
  have h2 : P.keyLits (P.types.size + 1) 31 (idV a b c).cells.toList = ([P.keyLits P.types.size 3 [.int .i64 a], P.keyLits P.types.size 3 [.int .i64 b], P.keyLits P.types.size 3 [.int .i64 c]].mapM id).map List.flatten := by kernel_rfl
  obtain ⟨n, hn⟩ := sz1
  refine ⟨.string (keyBytes [.int .i64 a, .int .i64 b, .int .i64 c]), ?_⟩
  unfold keyOf
  rw [Try.underlying31]
  show (if (P.keyType 31 && (idV a b c).formed P 31) = true then _ else none) = _
  rw [if_pos h1, h2, hn, lits1 n ha, lits1 n hb, lits1 n hc]
  rfl
theorem keyD {a b : Int} (ha : InR a) (hb : InR b) : ∃ l, keyOf P 57 (dotV a b) = some l := by
  have h1 : (P.keyType 57 && (dotV a b).formed P 57) = true := by kernel_rfl
  have h2 : P.keyLits (P.types.size + 1) 57 (dotV a b).cells.toList = ([P.keyLits P.types.size 3 [.int .i64 a], P.keyLits P.types.size 3 [.int .i64 b]].mapM id).map List.flatten := by kernel_rfl
  obtain ⟨n, hn⟩ := sz1
  refine ⟨.string (keyBytes [.int .i64 a, .int .i64 b]), ?_⟩
  unfold keyOf
  rw [Try.underlying57]
  show (if (P.keyType 57 && (dotV a b).formed P 57) = true then _ else none) = _
  rw [if_pos h1, h2, hn, lits1 n ha, lits1 n hb]
  rfl

structure Fe where
  a : Int
  b : Int
  c : Int
  v : Value
  blk : Nat
  l : List CE
def Fe.id (f : Fe) : ID := (f.a, f.b, f.c)
def Fe.key (f : Fe) : Value := idV f.a f.b f.c
def esF (fs : List Fe) : List (Value × AV) := fs.map fun f => (f.key, .lit f.v)
theorem idV_inj {a b c a' b' c' : Int} (h : idV a b c = idV a' b' c') : (a, b, c) = (a', b', c') := by
  simp only [idV, Value.agg.injEq, Array.mk.injEq, List.cons.injEq, Value.int.injEq, true_and, and_true] at h
  obtain ⟨rfl, rfl, rfl⟩ := h
  rfl
structure FamOk (V : View) (T : ID → Prop) (fs : List Fe) : Prop where
  kid : ∀ f ∈ fs, T f.id → ∃ cap c t, Kid V.w f.v f.blk f.l cap c t
  mt : ∀ f ∈ fs, T f.id → V.M f.blk
  off : ∀ f ∈ fs, T f.id → ∀ i, i < V.H.length → V.ρ i ≠ f.blk
  apart : ∀ f ∈ fs, ∀ g ∈ fs, T f.id → T g.id → f.blk = g.blk → f.id = g.id
def FamB (T : ID → Prop) (fs : List Fe) (b : Nat) : Prop := ∃ f ∈ fs, T f.id ∧ f.blk = b
theorem Kid.lt {w : World} {v : Value} {b cap : Nat} {l : List CE} {c : Array Value} {t : TypeId} (h : Kid w v b l cap c t) : b < w.heap.size := (Array.getElem?_eq_some_iff.1 h.blk).1
theorem FamOk.lt {V : View} {T : ID → Prop} {fs : List Fe} (h : FamOk V T fs) {f : Fe} (hf : f ∈ fs) (ht : T f.id) : f.blk < V.w.heap.size := by
  obtain ⟨cap, c, t, hk⟩ := h.kid f hf ht
  exact hk.lt
theorem Kid.same {w w' : World} {v : Value} {b cap : Nat} {l : List CE} {c : Array Value} {t : TypeId} (h : Kid w v b l cap c t) (hs : w'.heap[b]? = w.heap[b]?) : Kid w' v b l cap c t := { h with blk := hs.trans h.blk }
theorem FamOk.step {V V' : View} {T : ID → Prop} {fs : List Fe} (h : FamOk V T fs) (hs : Step V V') : FamOk V' T fs where
  kid f hf ht := by
    obtain ⟨cap, c, t, hk⟩ := h.kid f hf ht
    exact ⟨cap, c, t, hk.same (hs.keep _ hk.lt (h.off f hf ht)).1⟩
  mt f hf ht := (hs.keep _ (h.lt hf ht) (h.off f hf ht)).2.2 (h.mt f hf ht)
  off f hf ht i hi := by
    have := h.lt hf ht
    rcases hs.fresh i hi with ⟨h1, h2⟩ | h1
    · rw [h2]; exact h.off f hf ht i h1
    · omega
  apart := h.apart
theorem FamOk.mono {V : View} {T T' : ID → Prop} {fs : List Fe} (h : FamOk V T fs) (hT : ∀ z, T' z → T z) : FamOk V T' fs :=
  ⟨fun f hf ht => h.kid f hf (hT _ ht), fun f hf ht => h.mt f hf (hT _ ht), fun f hf ht => h.off f hf (hT _ ht), fun f hf g hg h1 h2 => h.apart f hf g hg (hT _ h1) (hT _ h2)⟩
theorem FamOk.told {V V' : View} {T : ID → Prop} {fs : List Fe} (h : FamOk V T fs) (hw : V'.w = V.w) (hM : ∀ f ∈ fs, T f.id → V'.M f.blk) (hρ : ∀ i, i < V'.H.length → ∃ j, j < V.H.length ∧ V'.ρ i = V.ρ j) : FamOk V' T fs where
  kid f hf ht := by rw [hw]; exact h.kid f hf ht
  mt := hM
  off f hf ht i hi := by
    obtain ⟨j, hj, e⟩ := hρ i hi
    rw [e]; exact h.off f hf ht j hj
  apart := h.apart

/-! The rows, looked up -/
structure FamR (fs : List Fe) : Prop where
  nodup : (fs.map Fe.id).Nodup
  rng : ∀ f ∈ fs, InR f.a ∧ InR f.b ∧ InR f.c
theorem fam_keys {fs : List Fe} (h : FamR fs) : ∀ e ∈ esF fs, ∃ l, keyOf P 31 e.1 = some l := by
  intro e he
  obtain ⟨f, hf, rfl⟩ := List.mem_map.1 he
  obtain ⟨h1, h2, h3⟩ := h.rng f hf
  exact keyI h1 h2 h3
theorem fam_get {fs : List Fe} (h : FamR fs) {f : Fe} (hf : f ∈ fs) : MapGet P 31 (esF fs) (idV f.a f.b f.c) nilS (.lit f.v) true := by
  obtain ⟨h1, h2, h3⟩ := h.rng f hf
  exact ⟨keyedI, keyI h1 h2 h3, fam_keys h, .inl ⟨rfl, List.mem_map.2 ⟨f, hf, rfl⟩⟩⟩
theorem fam_none {fs : List Fe} (h : FamR fs) {a b c : Int} (ha : InR a) (hb : InR b) (hc : InR c) (hn : ∀ f ∈ fs, f.id ≠ (a, b, c)) : MapGet P 31 (esF fs) (idV a b c) nilS nilS false :=
  ⟨keyedI, keyI ha hb hc, fam_keys h, .inr ⟨rfl, rfl, fun e he => by
    obtain ⟨f, hf, rfl⟩ := List.mem_map.1 he
    exact fun hq => hn f hf (idV_inj hq)⟩⟩

/-! The pieces of below -/
def fnB : AV := .fn (.func 30) [] [.ptr 2 0, .ptr 0 0, .ptr 5 0]
def HB (es : List (Value × AV)) (g n : Nat) (xs : List (List AV)) : List AObj := [.box [.own 6 g 0 n], .map es, .box [.mp 1], .gone, .gone, .box [fnB], .arr g 9 false xs]
def HN (es : List (Value × AV)) : List AObj := [.box [nilS], .map es, .box [.mp 1], .gone, .gone, .box [fnB]]
def enB (a b c : Int) : List AV := [ida a b c, .ptr 2 0, .ptr 0 0, .ptr 5 0] ++ List.replicate 24 (.lit undef)
def blE (l : List (Nat × AV)) : List AV := slots 28 ([(1, .ptr 2 0), (2, .ptr 0 0), (3, .ptr 5 0)] ++ l)
noncomputable def C30 : Code := bodyOf P 30
noncomputable def c0 : Code := Code.hd C30
noncomputable def c1 : Code := Code.hd (Code.tl C30)
noncomputable def c2 : Code := Code.hd (Code.tl (Code.tl C30))
noncomputable def c3 : Code := Code.hd (Code.tl (Code.tl (Code.tl C30)))
noncomputable def L30 : Code := loopAt P 30 0
noncomputable def c4 : Code := Code.hd L30
noncomputable def cIf : Code := Code.hd (Code.tl L30)
noncomputable def cB : Code := Code.inB (Code.hd (Code.tl (Code.tl L30)))
noncomputable def c8 : Code := Code.tl (Code.tl (Code.tl L30))
noncomputable def c5 : Code := Code.hd cB
noncomputable def c6 : Code := Code.hd (Code.tl cB)
noncomputable def c7 : Code := Code.tl (Code.tl cB)
theorem loop30 : L30 = .seq c4 (.seq cIf (.seq (.block 1 (.seq c5 (.seq c6 c7))) c8)) := by kernel_rfl
noncomputable def ops2 : Array Oper := opsOf c2
noncomputable def ops7 : Array Oper := opsOf c7
theorem reg2 : c2 = .region 2 ops2 false := by kernel_rfl
theorem reg7 : c7 = .region 7 ops7 false := by kernel_rfl

section
variable (es : List (Value × AV)) (g n : Nat) (xs : List (List AV)) (a b c : Int) (ks : List CE) (k : Nat) (x : CE)
theorem p0b : PieceC P G none 7 c0 ⟨enB a b c, HB es g n xs, []⟩ ⟨(enB a b c).set 4 (.ptr 7 0), HB es g n xs ++ [.box [int a, int b, int c]], []⟩ := piece_of [] [] 8 (by kernel_rfl)
theorem p1b (v : Value) (ok : Bool) (h : MapGet P 31 es (idV a b c) nilS (.lit v) ok) (hes : ∀ e ∈ es, e.2.idsLt 7 = true) (hxs : ∀ x ∈ xs, AV.idsInL [] x = true) : PieceC P G none 7 c1 ⟨(enB a b c).set 4 (.ptr 7 0), HB es g n xs ++ [.box [int a, int b, int c]], []⟩ ⟨blE [(5, .lit v)], HB es g n xs, []⟩ := piece_of [ko (.mget (.lit v) ok), kp h, kp hes, kp hxs] (others 28 [1, 2, 3, 5]) 7 (by kernel_rfl)
theorem p2b : PieceC P G none 7 c2 ⟨blE [(5, nilS)], HB es g n xs, []⟩ ⟨blE [(5, nilS)], HB es g n xs, []⟩ := piece_of [kc [] (desc_n trivial)] (others 28 [1, 2, 3, 5]) 7 (by kernel_rfl)
theorem p3b0 : PieceC P G none 7 c3 ⟨blE [(5, nilS)], HB es g n xs, []⟩ ⟨blE [(13, nilS), (14, int 0), (15, int 0)], HB es g n xs, []⟩ := piece_of [] (others 28 [1, 2, 3, 13, 14, 15]) 7 (by kernel_rfl)
theorem p3br : PieceC P G none 7 c3 ⟨blE [(5, ces ks)], HB es g n xs, []⟩ ⟨blE [(13, ces ks), (14, int (encs ks).length), (15, int 0)], HB es g n xs, []⟩ := piece_of [] (others 28 [1, 2, 3, 13, 14, 15]) 7 (by kernel_rfl)
theorem p4b (m : Int) (hlt : decide ((k : Int) < m) = true) : PieceC P G none 7 c4 ⟨blE [(13, ces ks), (14, int m), (15, int k)], HB es g n xs, []⟩ ⟨blE [(13, ces ks), (14, int m), (15, int k), (16, bool true)], HB es g n xs, []⟩ := by
  have h : PieceC P G none 7 c4 ⟨blE [(13, ces ks), (14, int m), (15, int k)], HB es g n xs, []⟩ ⟨blE [(13, ces ks), (14, int m), (15, int k), (16, bool (decide ((k : Int) < m)))], HB es g n xs, []⟩ := piece_of [] (others 28 [1, 2, 3, 13, 14, 15, 16]) 7 (by kernel_rfl)
  rw [hlt] at h
  exact h
theorem pIb (m : Int) : PieceC P G none 7 cIf ⟨blE [(13, ces ks), (14, int m), (15, int k), (16, bool true)], HB es g n xs, []⟩ ⟨blE [(13, ces ks), (14, int m), (15, int k)], HB es g n xs, []⟩ := piece_of [kt (Eq.refl true)] (others 28 [1, 2, 3, 13, 14, 15]) 7 (by kernel_rfl)
theorem p5b (m : Int) (h : (0 : Int) ≤ (k : Int) ∧ (encs ks)[(k : Int).toNat]? = some (enc x)) : PieceC P G none 7 c5 ⟨blE [(13, ces ks), (14, int m), (15, int k)], HB es g n xs, []⟩ ⟨blE [(7, .ptr 7 0), (13, ces ks), (14, int m), (15, int k)], HB es g n xs ++ [.box (enc x)], []⟩ := piece_of [ko (.elem (enc x)), kp h] (others 28 [1, 2, 3, 7, 13, 14, 15]) 8 (by kernel_rfl)
theorem pEb (m : Int) (y : AV) (hge : decide ((k : Int) < m) = false) : RunL P G none 7 L30 ⟨blE [(13, y), (14, int m), (15, int k)], HB es g n xs, []⟩ (.exit 0) ⟨slots 28 [], HB es g n xs, []⟩ := loop_exit [kf hge] (others 28 []) 7 (by kernel_rfl)
theorem p8b (m : Int) (hk : k < 1000000) : PieceC P G none 7 c8 ⟨blE [(13, ces ks), (14, int m), (15, int k)], HB es g n xs, []⟩ ⟨blE [(13, ces ks), (14, int m), (15, int (k + 1 : Nat))], HB es g n xs, []⟩ := by
  have h : PieceC P G none 7 c8 ⟨blE [(13, ces ks), (14, int m), (15, int k)], HB es g n xs, []⟩ ⟨blE [(13, ces ks), (14, int m), (15, int (IntKind.wrap .i64 ((k : Int) + 1)))], HB es g n xs, []⟩ := piece_of [] (others 28 [1, 2, 3, 13, 14, 15]) 7 (by kernel_rfl)
  have e : IntKind.wrap .i64 ((k : Int) + 1) = ((k + 1 : Nat) : Int) := by
    simp [IntKind.wrap, IntKind.bits, IntKind.signed]; omega
  rw [e] at h
  exact h
theorem p0n : PieceC P G none 6 c0 ⟨enB a b c, HN es, []⟩ ⟨(enB a b c).set 4 (.ptr 6 0), HN es ++ [.box [int a, int b, int c]], []⟩ := piece_of [] [] 7 (by kernel_rfl)
theorem p1n (v : Value) (ok : Bool) (h : MapGet P 31 es (idV a b c) nilS (.lit v) ok) (hes : ∀ e ∈ es, e.2.idsLt 6 = true) : PieceC P G none 6 c1 ⟨(enB a b c).set 4 (.ptr 6 0), HN es ++ [.box [int a, int b, int c]], []⟩ ⟨blE [(5, .lit v)], HN es, []⟩ := piece_of [ko (.mget (.lit v) ok), kp h, kp hes] (others 28 [1, 2, 3, 5]) 6 (by kernel_rfl)
theorem p2n : PieceC P G none 6 c2 ⟨blE [(5, nilS)], HN es, []⟩ ⟨blE [(5, nilS)], HN es, []⟩ := piece_of [kc [] (desc_n trivial)] (others 28 [1, 2, 3, 5]) 6 (by kernel_rfl)
theorem p3n0 : PieceC P G none 6 c3 ⟨blE [(5, nilS)], HN es, []⟩ ⟨blE [(13, nilS), (14, int 0), (15, int 0)], HN es, []⟩ := piece_of [] (others 28 [1, 2, 3, 13, 14, 15]) 6 (by kernel_rfl)
theorem p3nr : PieceC P G none 6 c3 ⟨blE [(5, ces ks)], HN es, []⟩ ⟨blE [(13, ces ks), (14, int (encs ks).length), (15, int 0)], HN es, []⟩ := piece_of [] (others 28 [1, 2, 3, 13, 14, 15]) 6 (by kernel_rfl)
theorem p4n (m : Int) (hlt : decide ((k : Int) < m) = true) : PieceC P G none 6 c4 ⟨blE [(13, ces ks), (14, int m), (15, int k)], HN es, []⟩ ⟨blE [(13, ces ks), (14, int m), (15, int k), (16, bool true)], HN es, []⟩ := by
  have h : PieceC P G none 6 c4 ⟨blE [(13, ces ks), (14, int m), (15, int k)], HN es, []⟩ ⟨blE [(13, ces ks), (14, int m), (15, int k), (16, bool (decide ((k : Int) < m)))], HN es, []⟩ := piece_of [] (others 28 [1, 2, 3, 13, 14, 15, 16]) 6 (by kernel_rfl)
  rw [hlt] at h
  exact h
theorem pIn (m : Int) : PieceC P G none 6 cIf ⟨blE [(13, ces ks), (14, int m), (15, int k), (16, bool true)], HN es, []⟩ ⟨blE [(13, ces ks), (14, int m), (15, int k)], HN es, []⟩ := piece_of [kt (Eq.refl true)] (others 28 [1, 2, 3, 13, 14, 15]) 6 (by kernel_rfl)
theorem p5n (m : Int) (h : (0 : Int) ≤ (k : Int) ∧ (encs ks)[(k : Int).toNat]? = some (enc x)) : PieceC P G none 6 c5 ⟨blE [(13, ces ks), (14, int m), (15, int k)], HN es, []⟩ ⟨blE [(7, .ptr 6 0), (13, ces ks), (14, int m), (15, int k)], HN es ++ [.box (enc x)], []⟩ := piece_of [ko (.elem (enc x)), kp h] (others 28 [1, 2, 3, 7, 13, 14, 15]) 7 (by kernel_rfl)
theorem pEn (m : Int) (y : AV) (hge : decide ((k : Int) < m) = false) : RunL P G none 6 L30 ⟨blE [(13, y), (14, int m), (15, int k)], HN es, []⟩ (.exit 0) ⟨slots 28 [], HN es, []⟩ := loop_exit [kf hge] (others 28 []) 6 (by kernel_rfl)
theorem p6b (m : Int) (hn : n = xs.length) (hm : (n + 1) * 80 ≤ 140737488355328) : PieceC P G none 7 c6 ⟨blE [(7, .ptr 7 0), (13, ces ks), (14, int m), (15, int k)], HB es g n xs ++ [.box (enc x)], []⟩ ⟨blE [(7, .ptr 7 0), (13, ces ks), (14, int m), (15, int k)], HB es (g + 1) (n + 1) (xs ++ [enc x]) ++ [.box (enc x)], []⟩ := piece_of [kp (rfl : g = g), kp hn, kp hm] (others 28 [1, 2, 3, 7, 13, 14, 15]) 8 (by kernel_rfl)
theorem p6n (m : Int) : PieceC P G none 6 c6 ⟨blE [(7, .ptr 6 0), (13, ces ks), (14, int m), (15, int k)], HN es ++ [.box (enc x)], []⟩ ⟨blE [(7, .ptr 6 0), (13, ces ks), (14, int m), (15, int k)], [.box [.own 7 0 0 1], .map es, .box [.mp 1], .gone, .gone, .box [fnB], .box (enc x), .arr 0 9 false [enc x]], []⟩ := piece_of [kp (show [enc x] ≠ [] by simp), kp (show 1 * 80 ≤ 140737488355328 by decide)] (others 28 [1, 2, 3, 7, 13, 14, 15]) 8 (by kernel_rfl)
end
end Go.Sq

/- SEQUENCE, 19: below sorts its sisters. -/
namespace Go.Sq
open Go Go.Am Go.Proofs Go.Seat

theorem Kid.rep {w : World} {M : Nat → Prop} {v : Value} {b cap : Nat} {l : List CE} {c : Array Value} {t : TypeId} (h : Kid w v b l cap c t) (hM : ¬ M b) : PRep w M (ces l) v := by
  have hv : v = .slice (some ⟨b, 0, none⟩) (encs l).length cap := by rw [encs_length]; exact h.val
  rw [hv]
  have hel : ∀ k, k < (encs l).length → ∃ x, l[k]? = some x ∧ (encs l).getD k [] = enc x := fun k hk => by
    rw [encs_length] at hk
    exact ⟨l[k], List.getElem?_eq_getElem hk, by rw [List.getD_eq_getElem?_getD, encs_get?, List.getElem?_eq_getElem hk]; rfl⟩
  refine .sl 9 false (encs l) (some ⟨b, 0, none⟩) cap b 0 (fun k j => ((l[k]?).map fun x => (encV x).getD j undef).getD undef) (fun _ => rfl) (fun _ _ => hM) (by rw [encs_length]; exact h.le) (fun h => by cases h) ?_ ?_ ?_ ?_
  · intro x hx
    obtain ⟨y, _, rfl⟩ := List.mem_map.1 hx
    rfl
  · intro k j hk hj
    obtain ⟨x, hx, _⟩ := hel k hk
    show w.cell? ⟨b, 0 + k * 9 + j, none⟩ = _
    rw [hx, Nat.zero_add]
    simp [World.cell?, h.blk, h.cell k x j hx hj]
  · intro k j hk hj
    obtain ⟨x, hx, _⟩ := hel k hk
    show (((l[k]?).map fun x => (encV x).getD j undef).getD undef).oneCell' = true
    rw [hx]
    refine encV_one x _ ?_
    have hj' : j < (encV x).length := hj
    show (encV x).getD j undef ∈ encV x
    rw [List.getD_eq_getElem?_getD, List.getElem?_eq_getElem hj']
    exact List.getElem_mem hj'
  · intro k j hk hj
    obtain ⟨x, hx, he⟩ := hel k hk
    show PRep w M (((encs l).getD k []).getD j .dead) (((l[k]?).map fun x => (encV x).getD j undef).getD undef)
    rw [hx, he]
    have hj' : j < 9 := hj
    match j, hj' with
    | 0, _ => exact .lit _
    | 1, _ => exact .lit _
    | 2, _ => exact .lit _
    | 3, _ => exact .lit _
    | 4, _ => exact .lit _
    | 5, _ => exact .lit _
    | 6, _ => exact .lit _
    | 7, _ => exact .lit _
    | 8, _ => exact .lit _

noncomputable def op2 : Oper := ops2.toList.getD 1 default
noncomputable def fn31 : Func := (P.funcs[31]?).getD default
theorem c2_sem {V : View} {a : Act} {T : ID → Prop} {fs : List Fe} {f : Fe} {H : List AObj} (hG : HeapRep G V) (hok : StOk V ⟨blE [(5, .lit f.v)], H, []⟩ a) (hids : ∀ (i : Nat) (o : AObj), H[i]? = some o → o.idsLt H.length) (h6 : 5 < H.length) (hF : FamOk V T fs) (hR : FamR fs) (hf : f ∈ fs) (ht : T f.id) (hlen : f.l.length ≤ 1000000) {K : Act → World → Prop} {Q : Exit → Act → World → Prop}
    (next : ∀ V' a' ks, ks.Perm f.l → ks.Pairwise (fun x y => gtB y x = false) → StepX (fun b => b = f.blk) V V' → HeapRep G V' → StOk V' ⟨blE [(5, ces ks)], H, []⟩ a' → FamOk V' (fun z => T z ∧ z ≠ f.id) fs → K a' V'.w) : c2.wpIn (fz none) 0 P (Exit.then K Q) a V.w := by
  rw [reg2]
  refine wpIn_region ?_
  have hH : V.H = H := hok.H
  refine runD_pre (os1 := [ops2.toList.getD 0 default]) (os2 := [op2]) (i := 0) (env := blE [(5, .lit f.v)]) (H := H) (ds := []) (orc := []) (env' := blE [(5, .lit f.v), (11, .lit f.v)]) (H' := H) (ds' := []) (orc' := []) (ps := []) (r := none) (by kernel_rfl) trivial (by kernel_rfl) hG hH hok.env hok.defs ?_
  intro V1 a1 s1 g1 hh1 e1 d1
  have hrest : (List.range ops2.size).drop (0 + [ops2.toList.getD 0 default].length) = [1] := by kernel_rfl
  rw [hrest]
  have hF1 := hF.step s1
  obtain ⟨cap, c, t, hk⟩ := hF1.kid f hf ht
  have hM := hF1.mt f hf ht
  have hoff := hF1.off f hf ht
  have h11 : a1.tmps.getD 11 undef = f.v := rep_lit (e1.get 11)
  have hargs : #[] ++ #[Operand.tmp 11, Operand.func 32].map a1.eval ++ #[] = #[f.v, .func (.func 32) #[] #[]] := by
    have e1 : a1.eval (.tmp 11) = f.v := h11
    have e2 : a1.eval (.func 32) = .func (.func 32) #[] #[] := rfl
    simp [e1, e2]
  refine callV_wp (o := op2) (g := .func 31) (f := 31) (fn := fn31) (us := #[]) (vs := #[]) (args := #[.tmp 11, .func 32]) (ts := #[22, 62]) (by kernel_rfl) (by kernel_rfl) (by kernel_rfl) (by kernel_rfl) (by kernel_rfl) rfl (by rw [hargs]; exact callsIn_wide.2 (desc_calls V1.w f.v f.blk cap f.l c t hk hlen)) ?_
  rintro e w' ⟨rfl, hsame, ks, c', hp, hsort, hk'⟩
  refine ⟨_, rfl, ?_⟩
  show K (a1.put op2.dst (.tuple #[])) w'
  have hblk : f.blk < V1.w.heap.size := hk.lt
  have hn : V1.H.length = H.length := by rw [hh1]
  have hal : Alter V1.H.length V1 ⟨w', fun b => V1.M b ∧ b ≠ f.blk, V1.H, V1.ρ⟩ := ⟨fun b hb hnm => by
      have hne : b ≠ f.blk := fun e => hnm (e ▸ hM)
      exact ⟨hsame.keep b hb hne, fun h => hnm h.1⟩, fun id hid _ => ⟨rfl, hsame.keep _ (g1.lt id hid) (hoff id hid), .inl rfl⟩⟩
  refine next ⟨w', fun b => V1.M b ∧ b ≠ f.blk, V1.H, V1.ρ⟩ _ ks hp hsort ?_ ?_ ?_ ?_
  · refine (s1.x _).trans ⟨hsame.os, hsame.tape, hsame.output, hsame.size, hsame.drawn, fun b hb hn hB => ⟨hsame.keep b hb hB, ⟨fun h => h.1, fun h => ⟨h, hB⟩⟩⟩, hal.data, Nat.le_refl _, fun id hid => .inl ⟨hid, rfl⟩, fun id hid => ?_⟩
    exact .refl hid rfl rfl (hsame.keep _ (g1.lt id hid) (hoff id hid))
  · refine HeapRep.alter hal g1 (fun id hid => Nat.lt_of_lt_of_le (g1.lt id hid) hsame.size) g1.inj fun id o ho => ⟨.inl ⟨(List.getElem?_eq_some_iff.1 ho).1, ho, ?_⟩, fun hop => ⟨g1.mutb id o ho hop, hoff id (List.getElem?_eq_some_iff.1 ho).1⟩⟩
    rw [hn]; exact hids id o (by rw [← hh1]; exact ho)
  · refine ⟨?_, hh1, by rw [put_def]; have := d1; cases hdd : a1.defers with | nil => exact .nil | cons d l => rw [hdd] at this; cases this⟩
    have h1 : EnvOk ⟨w', fun b => V1.M b ∧ b ≠ f.blk, V1.H, V1.ρ⟩ (blE [(5, .lit f.v), (11, .lit f.v)]) a1 := EnvOk.alter hal e1 (by
      rw [hn]
      have h5 : Nat.blt 5 H.length = true := Nat.ble_eq_true_of_le h6
      have h2 : Nat.blt 2 H.length = true := Nat.ble_eq_true_of_le (by omega)
      have h0 : Nat.blt 0 H.length = true := Nat.ble_eq_true_of_le (by omega)
      simp [blE, slots, slotAt, List.range, List.range.loop, AV.idsLtL, AV.idsLt]
      omega)
    have h2 := h1.reslot (t := 5) (x := ces ks) (by
      have h5 : a1.tmps.getD 5 undef = f.v := rep_lit (e1.get 5)
      rw [h5]
      exact .pure _ _ (hk'.rep fun h => h.2 rfl))
    have h3 := h2.put op2.dst (x := .dead) (v := .tuple #[]) (.dead _)
    refine EnvOk.dull h3 (by kernel_rfl) fun j hj => ?_
    have hj28 : j < 28 := by
      have : (putA ((blE [(5, AV.lit f.v), (11, AV.lit f.v)]).set 5 (ces ks)) op2.dst AV.dead).length = 28 := by kernel_rfl
      omega
    by_cases h11 : j = 11
    · subst h11; exact .inr (by kernel_rfl)
    · left
      have : ∀ j, j < 28 → j ≠ 11 → (blE [(5, ces ks)]).getD j .dead = (putA ((blE [(5, AV.lit f.v), (11, AV.lit f.v)]).set 5 (ces ks)) (some 12) AV.dead).getD j .dead := by
        intro j hj hne
        have : j ∈ List.range 28 := List.mem_range.2 hj
        simp only [List.range, List.range.loop, List.mem_cons, List.not_mem_nil, or_false] at this
        rcases this with rfl | rfl | rfl | rfl | rfl | rfl | rfl | rfl | rfl | rfl | rfl | rfl | rfl | rfl | rfl | rfl | rfl | rfl | rfl | rfl | rfl | rfl | rfl | rfl | rfl | rfl | rfl | rfl <;> first | rfl | exact absurd rfl hne
      rw [show op2.dst = some 12 by kernel_rfl]
      exact this j hj28 h11
  · refine ⟨fun g hg hT => ?_, fun g hg hT => ?_, fun g hg hT => ?_, fun g hg g' hg' h1 h2 => hF1.apart g hg g' hg' h1.1 h2.1⟩
    · obtain ⟨cap, c, t, hk2⟩ := hF1.kid g hg hT.1
      have hne : g.blk ≠ f.blk := fun e => hT.2 (hF1.apart g hg f hf hT.1 ht e)
      exact ⟨cap, c, t, hk2.same (hsame.keep _ hk2.lt hne)⟩
    · exact ⟨hF1.mt g hg hT.1, fun e => hT.2 (hF1.apart g hg f hf hT.1 ht e)⟩
    · exact hF1.off g hg hT.1
end Go.Sq

/- SEQUENCE, 20: below. -/
namespace Go.Sq
open Go Go.Am Go.Proofs Go.Seat

theorem HB_ids (es : List (Value × AV)) (g n : Nat) (xs : List (List AV)) (hes : ∀ e ∈ es, e.2.idsLt 7 = true) (hxs : ∀ x ∈ xs, AV.idsLtL 7 x = true) : ∀ (i : Nat) (o : AObj), (HB es g n xs)[i]? = some o → o.idsLt 7 := by
  intro i o h
  have hi : i < 7 := (List.getElem?_eq_some_iff.1 h).1
  match i, hi with
  | 0, _ => injection h with h; subst h; rfl
  | 1, _ => injection h with h; subst h; exact hes
  | 2, _ => injection h with h; subst h; rfl
  | 3, _ => injection h with h; subst h; trivial
  | 4, _ => injection h with h; subst h; trivial
  | 5, _ => injection h with h; subst h; rfl
  | 6, _ => injection h with h; subst h; exact hxs
theorem esF_ids (fs : List Fe) (n : Nat) : ∀ e ∈ esF fs, e.2.idsLt n = true := by
  intro e he
  obtain ⟨f, _, rfl⟩ := List.mem_map.1 he
  rfl
theorem encs_idsLt (v : List CE) (n : Nat) : ∀ x ∈ encs v, AV.idsLtL n x = true := by
  intro x hx
  obtain ⟨y, _, rfl⟩ := List.mem_map.1 hx
  rfl
def View.cut (V : View) (m : Nat) : View := { V with H := V.H.take m }
theorem cut_alter (V : View) (m : Nat) : Alter m V (V.cut m) := ⟨fun b _ h => ⟨rfl, h⟩, fun id h1 _ => ⟨rfl, rfl, .inl (by show (V.H.take m)[id]? = _; rw [List.getElem?_take, if_pos h1])⟩⟩
theorem cut_heap {V : View} {m : Nat} (hG : HeapRep G V) (hids : ∀ (i : Nat) (o : AObj), i < m → V.H[i]? = some o → o.idsLt m) : HeapRep G (V.cut m) := by
  have hl : ∀ i, i < (V.cut m).H.length → i < m ∧ i < V.H.length := fun i hi => by
    have : i < (V.H.take m).length := hi
    rw [List.length_take] at this
    omega
  refine HeapRep.alter (cut_alter V m) hG (fun id hid => hG.lt id (hl id hid).2) (fun i j hi hj e => hG.inj i j (hl i hi).2 (hl j hj).2 e) fun id o ho => ?_
  have hlt := hl id (List.getElem?_eq_some_iff.1 ho).1
  have ho' : V.H[id]? = some o := by
    have : (V.H.take m)[id]? = some o := ho
    rwa [List.getElem?_take, if_pos hlt.1] at this
  exact ⟨.inl ⟨hlt.1, ho', hids id o hlt.1 ho'⟩, hG.mutb id o ho'⟩
theorem cut_step {V0 V : View} {m : Nat} (hs : Step V0 V) (hm : V0.H.length ≤ m) : Step V0 (V.cut m) where
  os := hs.os
  tape := hs.tape
  output := hs.output
  size := hs.size
  drawn := hs.drawn
  keep := hs.keep
  data := hs.data
  hlen := by
    show _ ≤ (V.H.take m).length
    rw [List.length_take]
    have := hs.hlen
    omega
  fresh id hid := hs.fresh id (by
    have : id < (V.H.take m).length := hid
    rw [List.length_take] at this
    omega)
  obj id hid := by
    have h := hs.obj id hid
    unfold ObjStep at h ⊢
    have e : (V.cut m).H[id]? = V.H[id]? := by show (V.H.take m)[id]? = _; rw [List.getElem?_take, if_pos (by omega)]
    rw [e]
    exact h

theorem stepX_ptr {B : Nat → Prop} {V V' : View} (h : StepX B V V') {id off : Nat} {v : Value} (hr : Rep V (.ptr id off) v) {cs cs' : List AV} (hb : V.H[id]? = some (.box cs)) (hb' : V'.H[id]? = some (.box cs')) : Rep V' (.ptr id off) v := by
  obtain ⟨_, rfl⟩ := rep_ptr hr
  have ho := h.obj id (List.getElem?_eq_some_iff.1 hb).1
  unfold ObjStep at ho
  rw [hb, hb'] at ho
  have e : V'.ρ id = V.ρ id := ho
  rw [← e]
  exact .ptr id off ⟨_, hb', rfl⟩
theorem stepX_sl {B : Nat → Prop} {V V' : View} (h : StepX B V V') {sz : Nat} {t : Bool} {xs : List (List AV)} {v : Value} (hr : Rep V (.sl sz t xs) v) : Rep V' (.sl sz t xs) v := .pure _ _ ((rep_sl hr).step h.data)

structure Link (l : List CE) (fs : List Fe) : Prop where
  ids : ∀ f ∈ fs, Ids f.l
  mem : ∀ f ∈ fs, ∀ x, x ∈ f.l ↔ x ∈ l ∧ x.after = f.id
  len : ∀ f ∈ fs, f.l.length ≤ 1000000
  all : ∀ x ∈ l, ∃ f ∈ fs, f.id = x.after
  rng : ∀ x ∈ l, InR x.dv ∧ InR x.sq ∧ InR x.at'
theorem Link.kids {l : List CE} {fs : List Fe} (h : Link l fs) (hI : Ids l) {f : Fe} (hf : f ∈ fs) {ks : List CE} (hp : ks.Perm f.l) (hs : ks.Pairwise (fun x y => gtB y x = false)) : ks = kids l f.a f.b f.c := by
  have hi : Ids ks := (List.Perm.pairwise_iff (fun {a b} h => fun e => h e.symm) hp).2 (h.ids f hf)
  have hd : Desc ks := (hs.and hi).imp fun {a b} h => by
    rcases gt_total h.2 with h1 | h1
    · exact h1
    · rw [h.1] at h1; cases h1
  exact hd.ext (kids_desc hI f.a f.b f.c) fun x => by
    rw [hp.mem_iff, h.mem f hf, mem_kids hI]
    rfl
theorem Link.none {l : List CE} {fs : List Fe} (h : Link l fs) (hI : Ids l) {a b c : Int} (hn : ∀ f ∈ fs, f.id ≠ (a, b, c)) : Sq.kids l a b c = [] := by
  cases hk : Sq.kids l a b c with
  | nil => rfl
  | cons y r =>
    have hy : y ∈ Sq.kids l a b c := by rw [hk]; simp
    obtain ⟨h1, h2⟩ := (mem_kids hI).1 hy
    obtain ⟨f, hf, e⟩ := h.all y h1
    exact absurd (e.trans h2) (hn f hf)
def idsOf (v : List CE) : List ID := v.map CE.id
def ptrV (b : Nat) : Value := .pointer (some ⟨b, 0, none⟩)
def BelowOk (l : List CE) (fs : List Fe) (n : Nat) (a b c : Int) : Prop := ∀ (V : View) (T : ID → Prop) (acc : List CE) (g : Nat), HeapRep G V → V.H = HB (esF fs) g acc.length (encs acc) → FamOk V T fs →
  (T (a, b, c) ∧ ∀ z ∈ idsOf (belowF l n a b c), T z) → ((a, b, c) :: idsOf (belowF l n a b c)).Nodup → acc.length + (belowF l n a b c).length ≤ 1000000 →
  CallsIn Fence.wide 0 P 30 #[idV a b c, ptrV (V.ρ 2), ptrV (V.ρ 0), ptrV (V.ρ 5)] V.w fun e w' => e = .returned (.tuple #[]) ∧ ∃ V' g', V'.w = w' ∧ StepX (FamB T fs) V V' ∧ HeapRep G V' ∧ V'.H = HB (esF fs) g' (acc ++ belowF l n a b c).length (encs (acc ++ belowF l n a b c)) ∧
    FamOk V' (fun z => T z ∧ z ≠ (a, b, c) ∧ z ∉ idsOf (belowF l n a b c)) fs

noncomputable def op7 : Oper := ops7.toList.getD 3 default
noncomputable def fn30 : Func := (P.funcs[30]?).getD default
theorem rep_id {V : View} {a b c : Int} {v : Value} (h : Rep V (ida a b c) v) : v = idV a b c := rep_toVal rfl h
theorem rep_fnB {V : View} {v : Value} (h : Rep V fnB v) : v = .func (.func 30) #[] #[ptrV (V.ρ 2), ptrV (V.ρ 0), ptrV (V.ρ 5)] := by
  obtain ⟨us, vs, rfl, h1, h2⟩ := rep_fn h
  have e1 : us = [] := List.length_eq_zero_iff.1 h1.1
  obtain ⟨x, y, z, rfl⟩ : ∃ x y z, vs = [x, y, z] := by
    have := h2.1
    match vs, this with
    | [x, y, z], _ => exact ⟨x, y, z, rfl⟩
  subst e1
  obtain ⟨_, k1⟩ := rep_ptr (h2.2 0 (by decide))
  obtain ⟨_, k2⟩ := rep_ptr (h2.2 1 (by decide))
  obtain ⟨_, k3⟩ := rep_ptr (h2.2 2 (by decide))
  have k1 : x = ptrV (V.ρ 2) := k1
  have k2 : y = ptrV (V.ρ 0) := k2
  have k3 : z = ptrV (V.ρ 5) := k3
  rw [k1, k2, k3]
theorem c7_sem {l : List CE} {fs : List Fe} {V0 V : View} {a : Act} {T : ID → Prop} {ks acc : List CE} {x : CE} {n g k : Nat} {m : Int} (h0 : V0.H.length ≤ 7) (hs : Step V0 V) (hG : HeapRep G V) (hok : StOk V ⟨blE [(7, .ptr 7 0), (13, ces ks), (14, int m), (15, int k)], HB (esF fs) g acc.length (encs acc) ++ [.box (enc x)], []⟩ a)
    (hF : FamOk V T fs) (hB : BelowOk l fs n x.dv x.sq x.at') (hT : T x.id ∧ ∀ z ∈ idsOf (belowF l n x.dv x.sq x.at'), T z) (hn : (x.id :: idsOf (belowF l n x.dv x.sq x.at')).Nodup) (hlen : acc.length + (belowF l n x.dv x.sq x.at').length ≤ 1000000) {Q : Exit → Act → World → Prop}
    (next : ∀ V' a' g', StepX (FamB T fs) V0 V' → HeapRep G V' → StOk V' ⟨blE [(13, ces ks), (14, int m), (15, int k)], HB (esF fs) g' (acc ++ belowF l n x.dv x.sq x.at').length (encs (acc ++ belowF l n x.dv x.sq x.at')), []⟩ a' →
      FamOk V' (fun z => T z ∧ z ≠ x.id ∧ z ∉ idsOf (belowF l n x.dv x.sq x.at')) fs → Q .normal a' V'.w) : c7.wpIn (fz none) 0 P Q a V.w := by
  rw [reg7]
  refine wpIn_region ?_
  have hH : V.H = HB (esF fs) g acc.length (encs acc) ++ [.box (enc x)] := hok.H
  refine runD_pre (os1 := [ops7.toList.getD 0 default, ops7.toList.getD 1 default, ops7.toList.getD 2 default]) (os2 := [op7]) (i := 0) (env := blE [(7, .ptr 7 0), (13, ces ks), (14, int m), (15, int k)]) (H := HB (esF fs) g acc.length (encs acc) ++ [.box (enc x)]) (ds := []) (orc := [])
    (env' := blE [(7, .ptr 7 0), (13, ces ks), (14, int m), (15, int k), (23, fnB), (24, .ptr 7 0), (25, ida x.dv x.sq x.at')]) (H' := HB (esF fs) g acc.length (encs acc) ++ [.box (enc x)]) (ds' := []) (orc' := []) (ps := []) (r := none) (by kernel_rfl) trivial (by kernel_rfl) hG hH hok.env hok.defs ?_
  intro V1 a1 s1 g1 hh1 e1 d1
  have hrest : (List.range ops7.size).drop (0 + [ops7.toList.getD 0 default, ops7.toList.getD 1 default, ops7.toList.getD 2 default].length) = [3] := by kernel_rfl
  rw [hrest]
  have hF1 := hF.step s1
  have h23 : a1.eval (.tmp 23) = .func (.func 30) #[] #[ptrV (V1.ρ 2), ptrV (V1.ρ 0), ptrV (V1.ρ 5)] := rep_fnB (e1.get 23)
  have h25 : a1.eval (.tmp 25) = idV x.dv x.sq x.at' := rep_id (e1.get 25)
  have hids : ∀ (i : Nat) (o : AObj), i < 7 → V1.H[i]? = some o → o.idsLt 7 := fun i o hi ho => by
    rw [hh1, List.getElem?_append_left (by exact hi)] at ho
    exact HB_ids _ _ _ _ (esF_ids fs 7) (encs_idsLt acc 7) i o ho
  have gc := cut_heap (m := 7) g1 hids
  have hc : (V1.cut 7).H = HB (esF fs) g acc.length (encs acc) := by show V1.H.take 7 = _; rw [hh1]; rfl
  have hFc : FamOk (V1.cut 7) T fs := hF1.told rfl hF1.mt fun i hi => ⟨i, by
    have : i < (V1.H.take 7).length := hi
    rw [List.length_take] at this
    omega, rfl⟩
  have hcall := hB (V1.cut 7) T acc g gc hc hFc hT hn hlen
  have hargs : #[] ++ #[Operand.tmp 25].map a1.eval ++ #[ptrV (V1.ρ 2), ptrV (V1.ρ 0), ptrV (V1.ρ 5)] = #[idV x.dv x.sq x.at', ptrV (V1.ρ 2), ptrV (V1.ρ 0), ptrV (V1.ρ 5)] := by simp [h25]
  refine callV_wp (o := op7) (g := .tmp 23) (f := 30) (fn := fn30) (us := #[]) (vs := #[ptrV (V1.ρ 2), ptrV (V1.ρ 0), ptrV (V1.ρ 5)]) (args := #[.tmp 25]) (ts := #[31]) (by kernel_rfl) (by kernel_rfl) (by kernel_rfl) (by kernel_rfl) (by kernel_rfl) h23 (by rw [hargs]; exact hcall) ?_
  rintro e w' ⟨rfl, V', g', rfl, k1, k2, k3, k4⟩
  refine ⟨_, rfl, ?_⟩
  show Q .normal (a1.put op7.dst (.tuple #[])) V'.w
  have ec : EnvOk (V1.cut 7) (blE [(13, ces ks), (14, int m), (15, int k)]) a1 := EnvOk.alter (cut_alter V1 7) (e1.dull (by kernel_rfl) fun j hj => by
    have hj28 : j ∈ List.range 28 := List.mem_range.2 hj
    simp only [List.range, List.range.loop, List.mem_cons, List.not_mem_nil, or_false] at hj28
    rcases hj28 with rfl | rfl | rfl | rfl | rfl | rfl | rfl | rfl | rfl | rfl | rfl | rfl | rfl | rfl | rfl | rfl | rfl | rfl | rfl | rfl | rfl | rfl | rfl | rfl | rfl | rfl | rfl | rfl <;> first | exact .inr rfl | exact .inl rfl) (by kernel_rfl)
  have hb2 : (V1.cut 7).H[2]? = some (.box [.mp 1]) := by rw [hc]; rfl
  have hb0 : (V1.cut 7).H[0]? = some (.box [.own 6 g 0 acc.length]) := by rw [hc]; rfl
  have hb5 : (V1.cut 7).H[5]? = some (.box [fnB]) := by rw [hc]; rfl
  refine next V' _ g' (((cut_step (hs.trans s1) (by omega)).x _).trans k1) k2 ⟨?_, k3, by rw [put_def]; have := d1; cases hdd : a1.defers with | nil => exact .nil | cons d l => rw [hdd] at this; cases this⟩ k4
  have e2 : EnvOk V' (blE [(13, ces ks), (14, int m), (15, int k)]) a1 := ⟨ec.1, fun j hj => by
    have hr := ec.2 j hj
    have hj28 : j ∈ List.range 28 := List.mem_range.2 hj
    simp only [List.range, List.range.loop, List.mem_cons, List.not_mem_nil, or_false] at hj28
    rcases hj28 with rfl | rfl | rfl | rfl | rfl | rfl | rfl | rfl | rfl | rfl | rfl | rfl | rfl | rfl | rfl | rfl | rfl | rfl | rfl | rfl | rfl | rfl | rfl | rfl | rfl | rfl | rfl | rfl <;> first | exact .dead _ | skip
    · exact stepX_ptr k1 hr hb2 (by rw [k3]; rfl)
    · exact stepX_ptr k1 hr hb0 (by rw [k3]; rfl)
    · exact stepX_ptr k1 hr hb5 (by rw [k3]; rfl)
    · exact stepX_sl k1 hr
    · rw [rep_lit hr]; exact .pure _ _ (.lit _)
    · rw [rep_lit hr]; exact .pure _ _ (.lit _)⟩
  have e3 := e2.put op7.dst (x := .dead) (v := .tuple #[]) (.dead _)
  exact e3
end Go.Sq

/- SEQUENCE, 21: below: its loop, itself. -/
namespace Go.Sq
open Go Go.Am Go.Proofs Go.Seat

theorem idsOf_append (v w : List CE) : idsOf (v ++ w) = idsOf v ++ idsOf w := by simp [idsOf]
theorem idsOf_cons (x : CE) (w : List CE) : idsOf (x :: w) = x.id :: idsOf w := rfl
def restF (l : List CE) (n : Nat) (ks : List CE) (k : Nat) : List CE := (ks.drop k).flatMap fun y => y :: belowF l n y.dv y.sq y.at'
theorem restF_end (l : List CE) (n : Nat) (ks : List CE) (k : Nat) (h : ks.length ≤ k) : restF l n ks k = [] := by unfold restF; rw [List.drop_eq_nil_of_le h]; rfl
theorem restF_at (l : List CE) (n : Nat) (ks : List CE) (k : Nat) (h : k < ks.length) : restF l n ks k = (ks[k] :: belowF l n ks[k].dv ks[k].sq ks[k].at') ++ restF l n ks (k + 1) := by
  unfold restF; rw [List.drop_eq_getElem_cons h, List.flatMap_cons]

theorem famB_mono {T T' : ID → Prop} {fs : List Fe} (h : ∀ z, T' z → T z) : ∀ b, FamB T' fs b → FamB T fs b := fun _ ⟨f, hf, ht, e⟩ => ⟨f, hf, h _ ht, e⟩

theorem loop_sem {l : List CE} {fs : List Fe} {n : Nat} {ks : List CE} (hks : ks.length ≤ 1000000) (IH : ∀ y ∈ ks, BelowOk l fs n y.dv y.sq y.at') {Q : Exit → Act → World → Prop} : ∀ (d k : Nat), ks.length - k = d → k ≤ ks.length → ∀ (V : View) (a : Act) (T : ID → Prop) (acc : List CE) (g : Nat),
    HeapRep G V → StOk V ⟨blE [(13, ces ks), (14, int ks.length), (15, int k)], HB (esF fs) g acc.length (encs acc), []⟩ a → FamOk V T fs → (∀ z ∈ idsOf (restF l n ks k), T z) → (idsOf (restF l n ks k)).Nodup → acc.length + (restF l n ks k).length ≤ 1000000 →
    (∀ V' a' g', StepX (FamB T fs) V V' → HeapRep G V' → StOk V' ⟨slots 28 [], HB (esF fs) g' (acc ++ restF l n ks k).length (encs (acc ++ restF l n ks k)), []⟩ a' → FamOk V' (fun z => T z ∧ z ∉ idsOf (restF l n ks k)) fs → Q (.exit 0) a' V'.w) → LoopIn (fz none) 0 P L30 Q a V.w := by
  intro d
  induction d with
  | zero =>
    intro k hd hk V a T acc g hG hok hF hT hN hlen next
    have h0 : V.H.length = 7 := by rw [hok.H]; rfl
    refine LoopIn.mono (pEb (esF fs) g acc.length (encs acc) k ks.length (ces ks) (decide_eq_false (by omega)) V V a h0 (Step.refl V) hG hok) ?_
    rintro e a' w' ⟨V', rfl, k1, k2, k3, k4⟩
    have hr := restF_end l n ks k (by omega)
    rw [hr] at next
    cases e <;> first | exact k4.elim | skip
    rename_i i
    obtain rfl : i = 0 := k4
    refine next V' a' g (k1.x _) k2 ?_ ((hF.step k1).mono fun z h => h.1)
    rw [List.append_nil]; exact k3
  | succ d ih =>
    intro k hd hk V a T acc g hG hok hF hT hN hlen next
    have hlt : k < ks.length := by omega
    have hx : ks[k]? = some ks[k] := List.getElem?_eq_getElem hlt
    have hr := restF_at l n ks k hlt
    have hxm : ks[k] ∈ ks := List.getElem_mem hlt
    generalize hxe : ks[k] = x at *
    have h0 : V.H.length = 7 := by rw [hok.H]; rfl
    rw [hr] at hT hN hlen next
    rw [idsOf_append, idsOf_cons] at hT hN
    obtain ⟨n1, n2, n3⟩ := List.nodup_append.1 hN
    have hlen' : acc.length + 1 + (belowF l n x.dv x.sq x.at').length + (restF l n ks (k + 1)).length ≤ 1000000 := by
      simp only [List.length_append, List.length_cons] at hlen; omega
    refine LoopIn.next ?_
    show L30.wpIn (fz none) 0 P _ a V.w
    rw [loop30]
    refine PieceC.seq (p4b (esF fs) g acc.length (encs acc) ks k ks.length (decide_eq_true (by omega))) h0 (Step.refl V) hG hok fun V1 a1 s1 g1 k1 => ?_
    refine PieceC.seq (pIb (esF fs) g acc.length (encs acc) ks k ks.length) h0 s1 g1 k1 fun V2 a2 s2 g2 k2 => ?_
    refine Go.wpIn_seq (Go.wpIn_block ?_)
    refine PieceC.seq (p5b (esF fs) g acc.length (encs acc) ks k x ks.length ⟨by omega, by rw [Int.toNat_natCast, encs_get?, hx]; rfl⟩) h0 s2 g2 k2 fun V3 a3 s3 g3 k3 => ?_
    refine PieceC.seq (p6b (esF fs) g acc.length (encs acc) ks k x ks.length (encs_length acc).symm (by omega)) h0 s3 g3 k3 fun V4 a4 s4 g4 k4 => ?_
    have e1 : acc.length + 1 = (acc ++ [x]).length := by simp
    have e2 : encs acc ++ [enc x] = encs (acc ++ [x]) := by rw [encs_one, encs_append]
    rw [e1, e2] at k4
    refine c7_sem (Nat.le_of_eq h0) s4 g4 k4 (hF.step s4) (IH x hxm) ⟨hT _ (by simp), fun z hz => hT z (by simp [hz])⟩ n1 (by rw [← e1]; omega) fun V5 a5 g5 s5 g5' k5 f5 => ?_
    show c8.wpIn (fz none) 0 P _ a5 V5.w
    have h05 : V5.H.length = 7 := by rw [k5.H]; rfl
    refine p8b (esF fs) g5 (acc ++ [x] ++ belowF l n x.dv x.sq x.at').length (encs (acc ++ [x] ++ belowF l n x.dv x.sq x.at')) ks k ks.length (by omega) V5 V5 a5 _ _ h05 (Step.refl V5) g5' k5 fun V6 a6 s6 g6 k6 => ?_
    have e3 : acc ++ [x] ++ belowF l n x.dv x.sq x.at' ++ restF l n ks (k + 1) = acc ++ (x :: belowF l n x.dv x.sq x.at' ++ restF l n ks (k + 1)) := by simp
    refine ih (k + 1) (by omega) (by omega) V6 a6 (fun z => T z ∧ z ≠ x.id ∧ z ∉ idsOf (belowF l n x.dv x.sq x.at')) (acc ++ [x] ++ belowF l n x.dv x.sq x.at') g5 g6 k6 (f5.step s6) (fun z hz => ?_) n2 (by simp only [List.length_append, List.length_cons, List.length_nil]; omega) fun V7 a7 g7 s7 g7' k7 f7 => ?_
    · refine ⟨hT z (by simp [hz]), fun e => ?_, fun hm => ?_⟩
      · exact n3 x.id (by simp) z hz e.symm
      · exact n3 z (by simp [hm]) z hz rfl
    · rw [e3] at k7
      refine next V7 a7 g7 ((s5.trans (s6.x _)).trans (s7.mono (famB_mono fun z h => h.1))) g7' k7 (f7.mono fun z h => ?_)
      rw [idsOf_append, idsOf_cons] at h
      simp only [List.mem_append, List.mem_cons, not_or] at h
      exact ⟨⟨h.1, h.2.1.1, h.2.1.2⟩, h.2.2⟩

theorem res30 (tmps : Array Value) (w : World) : (results fn30 tmps).run P w = .ok (.tuple #[]) w := by
  have h : fn30.results = #[] := by kernel_rfl
  unfold results
  rw [h, Array.mapM_eq_mapM_toList]
  simp only [Sem.run_bind, Sem.run_map, Result.andThen, Sem.run_pure, List.mapM_nil]
  rfl
theorem entry30 {V : View} {a b c : Int} {H : List AObj} (hH : V.H = H) (h2 : KindOk AObj.isBox V 2) (h0 : KindOk AObj.isBox V 0) (h5 : KindOk AObj.isBox V 5) :
    StOk V ⟨enB a b c, H, []⟩ { tmps := #[idV a b c, ptrV (V.ρ 2), ptrV (V.ρ 0), ptrV (V.ρ 5)] ++ Array.replicate (fn30.ntmps - 4) undef, defers := [] } := by
  have hn : fn30.ntmps = 28 := by kernel_rfl
  rw [hn]
  refine ⟨?_, hH, .nil⟩
  have h1 : Reps V [ida a b c, .ptr 2 0, .ptr 0 0, .ptr 5 0] [idV a b c, ptrV (V.ρ 2), ptrV (V.ρ 0), ptrV (V.ρ 5)] :=
    .cons (.agg _ [.int .i64 a, .int .i64 b, .int .i64 c] rfl fun j hj => by
      have : j < 3 := hj
      match j, this with
      | 0, _ => exact .pure _ _ (.lit _)
      | 1, _ => exact .pure _ _ (.lit _)
      | 2, _ => exact .pure _ _ (.lit _)) (.cons (.ptr 2 0 h2) (.cons (.ptr 0 0 h0) (.cons (.ptr 5 0 h5) .nil)))
  have h2 : EnvOk V (enB a b c) { tmps := ([idV a b c, ptrV (V.ρ 2), ptrV (V.ρ 0), ptrV (V.ρ 5)] ++ List.replicate 24 undef).toArray, defers := [] } := by
    refine Reps.append h1 ?_
    have := Reps.lits (V := V) (List.replicate 24 undef)
    rw [List.map_replicate] at this
    exact this
  have e : ([idV a b c, ptrV (V.ρ 2), ptrV (V.ρ 0), ptrV (V.ρ 5)] ++ List.replicate 24 undef).toArray = #[idV a b c, ptrV (V.ρ 2), ptrV (V.ρ 0), ptrV (V.ρ 5)] ++ Array.replicate (28 - 4) undef := by
    apply Array.ext'
    simp
  rw [e] at h2
  exact h2
theorem nodup_tail {a : ID} {l : List ID} (h : (a :: l).Nodup) : l.Nodup ∧ a ∉ l := ⟨(List.nodup_cons.1 h).2, (List.nodup_cons.1 h).1⟩
theorem below_ok {l : List CE} {fs : List Fe} (hL : Link l fs) (hI : Ids l) (hR : FamR fs) (hv : l.length ≤ 1000000) : ∀ n a b c, Deep l n a b c → InR a → InR b → InR c → BelowOk l fs n a b c := by
  intro n
  induction n with
  | zero => intro a b c h; exact h.elim
  | succ n ih =>
    intro a b c hD ha hb hc V T acc g hG hH hF hT hN hlen
    have h0 : V.H.length = 7 := by rw [hH]; rfl
    have kb : ∀ i cs, (HB (esF fs) g acc.length (encs acc))[i]? = some (.box cs) → KindOk AObj.isBox V i := fun i cs h => ⟨_, by rw [hH]; exact h, rfl⟩
    have hfn : P.funcs[30]? = some fn30 := by kernel_rfl
    have hbody : fn30.body = some (.seq c0 (.seq c1 (.seq c2 (.seq c3 (.block 0 (.loop L30)))))) := by kernel_rfl
    refine callsIn_body hfn hbody ?_
    refine PieceC.seq (p0b (esF fs) g acc.length (encs acc) a b c) h0 (Step.refl V) hG (entry30 hH (kb 2 _ rfl) (kb 0 _ rfl) (kb 5 _ rfl)) fun V1 a1 s1 g1 k1 => ?_
    have hks : restF l n (kids l a b c) 0 = belowF l (n + 1) a b c := by unfold restF; rw [List.drop_zero]; rfl
    by_cases hfd : ∃ f ∈ fs, f.id = (a, b, c)
    · obtain ⟨f, hf, hfi⟩ := hfd
      obtain ⟨rfl, rfl, rfl⟩ : f.a = a ∧ f.b = b ∧ f.c = c := by
        have : (f.a, f.b, f.c) = (a, b, c) := hfi
        simpa using this
      refine PieceC.seq (p1b (esF fs) g acc.length (encs acc) f.a f.b f.c f.v true (fam_get hR hf) (esF_ids fs 7) (encs_ids acc)) h0 s1 g1 k1 fun V2 a2 s2 g2 k2 => ?_
      refine Go.wpIn_seq (c2_sem g2 k2 (HB_ids _ _ _ _ (esF_ids fs 7) (encs_idsLt acc 7)) (by show 5 < 7; decide) (hF.step s2) hR hf hT.1 (hL.len f hf) fun V3 a3 ks hp hsort s3 g3 k3 f3 => ?_)
      obtain rfl := hL.kids hI hf hp hsort
      have h03 : V3.H.length = 7 := by rw [k3.H]; rfl
      refine PieceC.seq (p3br (esF fs) g acc.length (encs acc) (kids l f.a f.b f.c)) h03 (Step.refl V3) g3 k3 fun V4 a4 s4 g4 k4 => ?_
      refine Go.wpIn_block (LoopIn.wpIn ?_)
      obtain ⟨n1, n2⟩ := nodup_tail hN
      have hkl := kids_len l f.a f.b f.c
      rw [encs_length] at k4
      refine loop_sem (l := l) (fs := fs) (n := n) (ks := kids l f.a f.b f.c) (by omega) (fun y hy => ?_) _ 0 rfl (Nat.zero_le _) V4 a4 (fun z => T z ∧ z ≠ f.id) acc g g4 k4 (f3.step s4) (by
        rw [hks]
        exact fun z hz => ⟨hT.2 z hz, fun e => n2 (by rw [e] at hz; exact hz)⟩) (by rw [hks]; exact n1) (by rw [hks]; exact hlen) ?_
      · obtain ⟨r1, r2, r3⟩ := hL.rng y ((mem_kids hI).1 hy).1
        exact ih _ _ _ (hD.kid hy) r1 r2 r3
      · rw [hks]
        intro V5 a5 g5 s5 g5' k5 f5
        refine ⟨.inl rfl, ?_, _, res30 _ _, rfl, V5, g5, rfl, ?_, g5', k5.H, f5.mono fun z h => ⟨⟨h.1, h.2.1⟩, h.2.2⟩⟩
        · have := k5.defs
          cases hdd : a5.defers with
          | nil => rfl
          | cons d l => rw [hdd] at this; cases this
        · exact ((s2.x _).trans (s3.mono fun b hb => ⟨f, hf, hT.1, hb.symm⟩)).trans ((s4.x _).trans (s5.mono (famB_mono fun z h => h.1)))
    · have hno : ∀ f ∈ fs, f.id ≠ (a, b, c) := fun f hf e => hfd ⟨f, hf, e⟩
      have hk0 := hL.none hI hno
      have hb0 : belowF l (n + 1) a b c = [] := by rw [belowF, hk0]; rfl
      refine PieceC.seq (p1b (esF fs) g acc.length (encs acc) a b c (.slice none 0 0) false (fam_none hR ha hb hc hno) (esF_ids fs 7) (encs_ids acc)) h0 s1 g1 k1 fun V2 a2 s2 g2 k2 => ?_
      refine PieceC.seq (p2b (esF fs) g acc.length (encs acc)) h0 s2 g2 k2 fun V3 a3 s3 g3 k3 => ?_
      refine PieceC.seq (p3b0 (esF fs) g acc.length (encs acc)) h0 s3 g3 k3 fun V4 a4 s4 g4 k4 => ?_
      refine Go.wpIn_block (LoopIn.wpIn ?_)
      refine LoopIn.mono (pEb (esF fs) g acc.length (encs acc) 0 0 nilS (by decide) V V4 a4 h0 s4 g4 k4) ?_
      rintro e a' w' ⟨V', rfl, k1, k2, k3, k4⟩
      cases e <;> first | exact k4.elim | skip
      rename_i i
      obtain rfl : i = 0 := k4
      rw [hb0]
      refine ⟨.inl rfl, ?_, _, res30 _ _, rfl, V', g, rfl, k1.x _, k2, by rw [List.append_nil]; exact k3.H, (hF.step k1).mono fun z h => h.1⟩
      have := k3.defs
      cases hdd : a'.defers with
      | nil => rfl
      | cons d l => rw [hdd] at this; cases this
end Go.Sq

/- SEQUENCE, 22: below, from the beginning, with nothing listed yet. -/
namespace Go.Sq
open Go Go.Am Go.Proofs Go.Seat

def swp (i : Nat) : Nat := if i = 6 then 7 else if i = 7 then 6 else i
def swapV (V : View) (H : List AObj) : View := { V with H := H, ρ := fun i => V.ρ (swp i) }
theorem esF_ren (fs : List Fe) (σ : Nat → Nat) : (esF fs).map (fun e => (e.1, e.2.ren σ)) = esF fs := by
  unfold esF
  rw [List.map_map]
  congr 1
def H1 (es : List (Value × AV)) (x : CE) : List AObj := [.box [.own 7 0 0 1], .map es, .box [.mp 1], .gone, .gone, .box [fnB], .box (enc x), .arr 0 9 false [enc x]]
def H2 (es : List (Value × AV)) (x : CE) : List AObj := HB es 0 1 [enc x] ++ [.box (enc x)]
theorem swap_lk {V : View} {fs : List Fe} {x : CE} (hH : V.H = H1 (esF fs) x) : Lk (swapV V (H2 (esF fs) x)) V swp where
  w := rfl
  M _ := Iff.rfl
  ρ _ _ := rfl
  obj i o ho := by
    rw [hH]
    have hi : i < 8 := (List.getElem?_eq_some_iff.1 ho).1
    match i, hi with
    | 0, _ => injection ho with ho; subst ho; rfl
    | 1, _ =>
      injection ho with ho; subst ho
      show some (AObj.map (esF fs)) = some (AObj.map _)
      rw [esF_ren]
    | 2, _ => injection ho with ho; subst ho; rfl
    | 3, _ => injection ho with ho; subst ho; rfl
    | 4, _ => injection ho with ho; subst ho; rfl
    | 5, _ => injection ho with ho; subst ho; rfl
    | 6, _ => injection ho with ho; subst ho; rfl
    | 7, _ => injection ho with ho; subst ho; rfl
theorem H2_ids (fs : List Fe) (x : CE) : ∀ (i : Nat) (o : AObj), (H2 (esF fs) x)[i]? = some o → o.idsLt 8 := by
  intro i o ho
  have hi : i < 8 := (List.getElem?_eq_some_iff.1 ho).1
  match i, hi with
  | 0, _ => injection ho with ho; subst ho; rfl
  | 1, _ => injection ho with ho; subst ho; exact esF_ids fs 8
  | 2, _ => injection ho with ho; subst ho; rfl
  | 3, _ => injection ho with ho; subst ho; trivial
  | 4, _ => injection ho with ho; subst ho; trivial
  | 5, _ => injection ho with ho; subst ho; rfl
  | 6, _ => injection ho with ho; subst ho; exact encs_idsLt [x] 8
  | 7, _ => injection ho with ho; subst ho; rfl
theorem swap_heap {V : View} {fs : List Fe} {x : CE} (hH : V.H = H1 (esF fs) x) (hG : HeapRep G V) : HeapRep G (swapV V (H2 (esF fs) x)) := by
  refine HeapRep.bwd (swap_lk hH) hG (H2_ids fs x) fun i j hi hj e => ?_
  unfold swp at e
  repeat' split at e
  all_goals omega
theorem swap_env {V : View} {fs : List Fe} {x : CE} {a : Act} {ks : List CE} {m : Int} {k : Nat} (hH : V.H = H1 (esF fs) x) (he : EnvOk V (blE [(7, .ptr 6 0), (13, ces ks), (14, int m), (15, int k)]) a) :
    EnvOk (swapV V (H2 (esF fs) x)) (blE [(7, .ptr 7 0), (13, ces ks), (14, int m), (15, int k)]) a := by
  refine Reps.bwd (swap_lk hH) (by kernel_rfl) ?_
  have e : AV.renL swp (blE [(7, .ptr 7 0), (13, ces ks), (14, int m), (15, int k)]) = blE [(7, .ptr 6 0), (13, ces ks), (14, int m), (15, int k)] := by kernel_rfl
  rw [e]
  exact he
theorem swap_step {V0 V : View} {fs : List Fe} {x : CE} (h0 : V0.H = HN (esF fs)) (hH : V.H = H1 (esF fs) x) (hs : Step V0 V) : Step V0 (swapV V (H2 (esF fs) x)) := by
  have hn : V0.H.length = 6 := by rw [h0]; rfl
  have hfix : ∀ i, i < 6 → swp i = i := fun i hi => by unfold swp; rw [if_neg (by omega), if_neg (by omega)]
  refine ⟨hs.os, hs.tape, hs.output, hs.size, hs.drawn, hs.keep, hs.data, ?_, fun id hid => ?_, fun id hid => ?_⟩
  · rw [hn]; show 6 ≤ 8; decide
  · have hid8 : id < 8 := hid
    by_cases h6 : id < 6
    · have := hs.fresh id (by rw [hH]; show id < 8; omega)
      show (id < V0.H.length ∧ V.ρ (swp id) = V0.ρ id) ∨ _ ≤ V.ρ (swp id)
      rw [hfix id h6]; exact this
    · right
      show _ ≤ V.ρ (swp id)
      have h7 : 6 ≤ swp id ∧ swp id < 8 := by unfold swp; repeat' split
                                              all_goals omega
      rcases hs.fresh (swp id) (by rw [hH]; show swp id < 8; omega) with ⟨h1, _⟩ | h1
      · omega
      · exact h1
  · rw [hn] at hid
    have h := hs.obj id (by rw [hn]; exact hid)
    unfold ObjStep at h ⊢
    rw [h0] at h ⊢
    rw [hH] at h
    show match (HN (esF fs))[id]?, (H2 (esF fs) x)[id]? with | _, _ => _
    match id, hid with
    | 0, _ => exact h
    | 1, _ => exact h
    | 2, _ => exact h
    | 3, _ => exact h
    | 4, _ => exact h
    | 5, _ => exact h

def RootOk (l : List CE) (fs : List Fe) (n : Nat) (a b c : Int) : Prop := ∀ (V : View) (T : ID → Prop), HeapRep G V → V.H = HN (esF fs) → FamOk V T fs →
  (T (a, b, c) ∧ ∀ z ∈ idsOf (belowF l n a b c), T z) → ((a, b, c) :: idsOf (belowF l n a b c)).Nodup → (belowF l n a b c).length ≤ 1000000 →
  CallsIn Fence.wide 0 P 30 #[idV a b c, ptrV (V.ρ 2), ptrV (V.ρ 0), ptrV (V.ρ 5)] V.w fun e w' => e = .returned (.tuple #[]) ∧ ∃ V', V'.w = w' ∧ StepX (FamB T fs) V V' ∧ HeapRep G V' ∧
    ((belowF l n a b c = [] ∧ V'.H = HN (esF fs)) ∨ belowF l n a b c ≠ [] ∧ ∃ g', V'.H = HB (esF fs) g' (belowF l n a b c).length (encs (belowF l n a b c)))
theorem root_ok {l : List CE} {fs : List Fe} (hL : Link l fs) (hI : Ids l) (hR : FamR fs) (hv : l.length ≤ 1000000) (n : Nat) (a b c : Int) (hD : Deep l (n + 1) a b c) (ha : InR a) (hb : InR b) (hc : InR c) : RootOk l fs (n + 1) a b c := by
  intro V T hG hH hF hT hN hlen
  have h0 : V.H.length = 6 := by rw [hH]; rfl
  have kb : ∀ i cs, (HN (esF fs))[i]? = some (.box cs) → KindOk AObj.isBox V i := fun i cs h => ⟨_, by rw [hH]; exact h, rfl⟩
  have hfn : P.funcs[30]? = some fn30 := by kernel_rfl
  have hbody : fn30.body = some (.seq c0 (.seq c1 (.seq c2 (.seq c3 (.block 0 (.loop L30)))))) := by kernel_rfl
  have nid : ∀ (i : Nat) (o : AObj), (HN (esF fs))[i]? = some o → o.idsLt (HN (esF fs)).length := by
    intro i o ho
    have hi : i < 6 := (List.getElem?_eq_some_iff.1 ho).1
    match i, hi with
    | 0, _ => injection ho with ho; subst ho; rfl
    | 1, _ => injection ho with ho; subst ho; exact esF_ids fs 6
    | 2, _ => injection ho with ho; subst ho; rfl
    | 3, _ => injection ho with ho; subst ho; trivial
    | 4, _ => injection ho with ho; subst ho; trivial
    | 5, _ => injection ho with ho; subst ho; rfl
  have nod : ∀ {V : View} {s : St} {a : Act}, StOk V s a → s.defs = [] → a.defers = [] := fun {V s a} k e => by
    have := k.defs
    rw [e] at this
    cases hdd : a.defers with
    | nil => rfl
    | cons d l => rw [hdd] at this; cases this
  refine callsIn_body hfn hbody ?_
  refine PieceC.seq (p0n (esF fs) a b c) h0 (Step.refl V) hG (entry30 hH (kb 2 _ rfl) (kb 0 _ rfl) (kb 5 _ rfl)) fun V1 a1 s1 g1 k1 => ?_
  have hks : restF l n (kids l a b c) 0 = belowF l (n + 1) a b c := by unfold restF; rw [List.drop_zero]; rfl
  by_cases hfd : ∃ f ∈ fs, f.id = (a, b, c)
  · obtain ⟨f, hf, hfi⟩ := hfd
    obtain ⟨rfl, rfl, rfl⟩ : f.a = a ∧ f.b = b ∧ f.c = c := by
      have : (f.a, f.b, f.c) = (a, b, c) := hfi
      simpa using this
    refine PieceC.seq (p1n (esF fs) f.a f.b f.c f.v true (fam_get hR hf) (esF_ids fs 6)) h0 s1 g1 k1 fun V2 a2 s2 g2 k2 => ?_
    refine Go.wpIn_seq (c2_sem g2 k2 nid (by show 5 < 6; decide) (hF.step s2) hR hf hT.1 (hL.len f hf) fun V3 a3 ks hp hsort s3 g3 k3 f3 => ?_)
    obtain rfl := hL.kids hI hf hp hsort
    have hkl := kids_len l f.a f.b f.c
    have hkid : ∀ y ∈ kids l f.a f.b f.c, BelowOk l fs n y.dv y.sq y.at' := fun y hy => by
      obtain ⟨r1, r2, r3⟩ := hL.rng y ((mem_kids hI).1 hy).1
      exact below_ok hL hI hR hv n _ _ _ (hD.kid hy) r1 r2 r3
    obtain ⟨nd1, nd2⟩ := nodup_tail hN
    have hB : ∀ b, b = f.blk → FamB T fs b := fun b hb => ⟨f, hf, hT.1, hb.symm⟩
    have hT1 : ∀ z ∈ idsOf (belowF l (n + 1) f.a f.b f.c), T z ∧ z ≠ f.id := fun z hz => ⟨hT.2 z hz, fun e => nd2 (by rw [e] at hz; exact hz)⟩
    generalize belowF l (n + 1) f.a f.b f.c = bl at *
    generalize kids l f.a f.b f.c = ks at *
    have h03 : V3.H.length = 6 := by rw [k3.H]; rfl
    refine PieceC.seq (p3nr (esF fs) ks) h03 (Step.refl V3) g3 k3 fun V4 a4 s4 g4 k4 => ?_
    rw [encs_length] at k4
    refine Go.wpIn_block (LoopIn.wpIn ?_)
    have f4 := f3.step s4
    have h04 : V4.H.length = 6 := by rw [k4.H]; rfl
    have sx : StepX (FamB T fs) V V4 := ((s2.x _).trans (s3.mono hB)).trans (s4.x _)
    rcases Nat.eq_zero_or_pos ks.length with hz | hpos
    · have hb0 : bl = [] := by rw [← hks]; exact restF_end l n ks 0 (by omega)
      refine LoopIn.mono (pEn (esF fs) 0 ks.length (ces ks) (by rw [hz]; decide) V4 V4 a4 h04 (Step.refl V4) g4 k4) ?_
      rintro e a' w' ⟨V', rfl, q1, q2, q3, q4⟩
      cases e <;> first | exact q4.elim | skip
      rename_i i
      obtain rfl : i = 0 := q4
      exact ⟨.inl rfl, nod q3 rfl, _, res30 _ _, rfl, V', rfl, sx.trans (q1.x _), q2, .inl ⟨hb0, q3.H⟩⟩
    · have hx : ks[0]? = some ks[0] := List.getElem?_eq_getElem hpos
      have hr := restF_at l n ks 0 hpos
      have hxm : ks[0] ∈ ks := List.getElem_mem hpos
      generalize hxe : ks[0] = x at *
      rw [hks] at hr
      rw [hr] at hlen hT1 nd1
      rw [idsOf_append, idsOf_cons] at hT1 nd1
      obtain ⟨n1, n2, n3⟩ := List.nodup_append.1 nd1
      have hlen' : 1 + (belowF l n x.dv x.sq x.at').length + (restF l n ks (0 + 1)).length ≤ 1000000 := by
        simp only [List.length_append, List.length_cons] at hlen; omega
      refine LoopIn.next ?_
      show L30.wpIn (fz none) 0 P _ a4 V4.w
      rw [loop30]
      refine PieceC.seq (p4n (esF fs) ks 0 ks.length (decide_eq_true (by omega))) h04 (Step.refl V4) g4 k4 fun V5 a5 s5 g5 k5 => ?_
      refine PieceC.seq (pIn (esF fs) ks 0 ks.length) h04 s5 g5 k5 fun V6 a6 s6 g6 k6 => ?_
      refine Go.wpIn_seq (Go.wpIn_block ?_)
      refine PieceC.seq (p5n (esF fs) ks 0 x ks.length ⟨by decide, by rw [Int.toNat_natCast, encs_get?, hx]; rfl⟩) h04 s6 g6 k6 fun V7 a7 s7 g7 k7 => ?_
      refine PieceC.seq (p6n (esF fs) ks 0 x ks.length) h04 s7 g7 k7 fun V8 a8 s8 g8 k8 => ?_
      have hH8 : V8.H = H1 (esF fs) x := k8.H
      have gs := swap_heap hH8 g8
      have ss := swap_step k4.H hH8 s8
      have ks8 : StOk (swapV V8 (H2 (esF fs) x)) ⟨blE [(7, .ptr 7 0), (13, ces ks), (14, int ks.length), (15, int (0 : Nat))], HB (esF fs) 0 [x].length (encs [x]) ++ [.box (enc x)], []⟩ a8 := ⟨swap_env hH8 k8.env, rfl, by
        have := nod k8 rfl
        rw [this]; exact .nil⟩
      refine c7_sem (V0 := V4) (by omega) ss gs ks8 (f4.step ss) (hkid x hxm) ⟨hT1 _ (by simp), fun z hz => hT1 z (by simp [hz])⟩ n1 (by show 1 + _ ≤ _; omega) fun V9 a9 g9 s9 g9' k9 f9 => ?_
      show c8.wpIn (fz none) 0 P _ a9 V9.w
      have h09 : V9.H.length = 7 := by rw [k9.H]; rfl
      refine p8b (esF fs) g9 ([x] ++ belowF l n x.dv x.sq x.at').length (encs ([x] ++ belowF l n x.dv x.sq x.at')) ks 0 ks.length (by omega) V9 V9 a9 _ _ h09 (Step.refl V9) g9' k9 fun Va aa sa ga ka => ?_
      refine loop_sem (l := l) (fs := fs) (n := n) (ks := ks) (by omega) hkid _ (0 + 1) rfl hpos Va aa (fun z => (T z ∧ z ≠ f.id) ∧ z ≠ x.id ∧ z ∉ idsOf (belowF l n x.dv x.sq x.at')) ([x] ++ belowF l n x.dv x.sq x.at') g9 ga ka (f9.step sa) (fun z hz => ?_) n2 (by simp only [List.length_append, List.length_cons, List.length_nil]; omega) ?_
      · refine ⟨hT1 z (by simp [hz]), fun e => ?_, fun hm => ?_⟩
        · exact n3 x.id (by simp) z hz e.symm
        · exact n3 z (by simp [hm]) z hz rfl
      · intro Vb ab gb sb gb' kb' fb
        have e3 : [x] ++ belowF l n x.dv x.sq x.at' ++ restF l n ks (0 + 1) = bl := by rw [hr]; simp
        rw [e3] at kb'
        refine ⟨.inl rfl, nod kb' rfl, _, res30 _ _, rfl, Vb, rfl, ?_, gb', .inr ⟨by rw [hr]; simp, gb, kb'.H⟩⟩
        exact ((sx.trans (s9.mono (famB_mono fun z h => h.1))).trans (sa.x _)).trans (sb.mono (famB_mono fun z h => h.1.1))
  · have hno : ∀ f ∈ fs, f.id ≠ (a, b, c) := fun f hf e => hfd ⟨f, hf, e⟩
    have hk0 := hL.none hI hno
    have hb0 : belowF l (n + 1) a b c = [] := by rw [belowF, hk0]; rfl
    refine PieceC.seq (p1n (esF fs) a b c (.slice none 0 0) false (fam_none hR ha hb hc hno) (esF_ids fs 6)) h0 s1 g1 k1 fun V2 a2 s2 g2 k2 => ?_
    refine PieceC.seq (p2n (esF fs)) h0 s2 g2 k2 fun V3 a3 s3 g3 k3 => ?_
    refine PieceC.seq (p3n0 (esF fs)) h0 s3 g3 k3 fun V4 a4 s4 g4 k4 => ?_
    refine Go.wpIn_block (LoopIn.wpIn ?_)
    refine LoopIn.mono (pEn (esF fs) 0 0 nilS (by decide) V V4 a4 h0 s4 g4 k4) ?_
    rintro e a' w' ⟨V', rfl, q1, q2, q3, q4⟩
    cases e <;> first | exact q4.elim | skip
    rename_i i
    obtain rfl : i = 0 := q4
    exact ⟨.inl rfl, nod q3 rfl, _, res30 _ _, rfl, V', rfl, q1.x _, q2, .inl ⟨hb0, q3.H⟩⟩
end Go.Sq

/- SEQUENCE, 23: the pieces of Order. -/
namespace Go.Sq
open Go Go.Am Go.Proofs Go.Seat

noncomputable def C13 : Code := bodyOf P 13
noncomputable def L13 : Code := loopAt P 13 0
noncomputable def a0 : Code := Code.hd C13
noncomputable def a1 : Code := Code.hd (Code.tl C13)
noncomputable def a2 : Code := Code.hd (Code.tl (Code.tl C13))
noncomputable def a3 : Code := Code.hd (Code.hd (Code.tl (Code.tl (Code.tl C13))))
noncomputable def aR : Code := Code.tl (Code.tl (Code.tl (Code.tl C13)))
noncomputable def a13 : Code := Code.hd aR
noncomputable def a14 : Code := Code.hd (Code.tl aR)
noncomputable def a15 : Code := Code.hd (Code.tl (Code.tl aR))
noncomputable def aE : Code := Code.tl (Code.tl (Code.tl aR))
noncomputable def q4 : Code := Code.hd L13
noncomputable def qI : Code := Code.hd (Code.tl L13)
noncomputable def qB : Code := Code.inB (Code.hd (Code.tl (Code.tl L13)))
noncomputable def q12 : Code := Code.tl (Code.tl (Code.tl L13))
noncomputable def q5 : Code := Code.hd qB
noncomputable def q6 : Code := Code.hd (Code.tl qB)
noncomputable def q7 : Code := Code.hd (Code.hd (Code.tl (Code.tl qB)))
noncomputable def q8 : Code := Code.hd (Code.tl (Code.hd (Code.tl (Code.tl qB))))
noncomputable def q9 : Code := Code.tl (Code.tl (Code.hd (Code.tl (Code.tl qB))))
noncomputable def q10 : Code := Code.hd (Code.tl (Code.tl (Code.tl qB)))
noncomputable def q11 : Code := Code.tl (Code.tl (Code.tl (Code.tl qB)))
theorem loop13 : L13 = .seq q4 (.seq qI (.seq (.block 1 (.seq q5 (.seq q6 (.seq (.seq q7 (.seq q8 q9)) (.seq q10 q11))))) q12)) := by kernel_rfl
def HO (es kn tm : List (Value × AV)) : List AObj := [.box [nilS], .map es, .box [.mp 1], .map kn, .map tm]
def qE (cs : List CE) (k : Nat) (l : List (Nat × AV)) : List AV := slots 77 ([(0, ces cs), (2, .ptr 0 0), (4, .ptr 2 0), (5, .mp 3), (6, .mp 4), (15, ces cs), (16, int cs.length), (17, int k)] ++ l)
def dt (x : CE) : List AV := [int x.dv, int x.sq]
section
variable (es kn tm : List (Value × AV)) (cs : List CE) (k i n : Nat) (x : CE) (t : Int) (ok b : Bool) (xs : List (List AV))
theorem b4 (hlt : k < cs.length) : PieceC P G none 5 q4 ⟨qE cs k [], HO es kn tm, []⟩ ⟨qE cs k [(18, bool true)], HO es kn tm, []⟩ := by
  have h : PieceC P G none 5 q4 ⟨qE cs k [], HO es kn tm, []⟩ ⟨qE cs k [(18, bool (decide ((k : Int) < cs.length)))], HO es kn tm, []⟩ := piece_of [] (others 77 [0, 2, 4, 5, 6, 15, 16, 17, 18]) 5 (by kernel_rfl)
  rw [decide_eq_true (by omega : (k : Int) < cs.length)] at h
  exact h
theorem bI : PieceC P G none 5 qI ⟨qE cs k [(18, bool true)], HO es kn tm, []⟩ ⟨qE cs k [], HO es kn tm, []⟩ := piece_of [kt (Eq.refl true)] (others 77 [0, 2, 4, 5, 6, 15, 16, 17]) 5 (by kernel_rfl)
theorem bE (hge : cs.length ≤ k) : RunL P G none 5 L13 ⟨qE cs k [], HO es kn tm, []⟩ (.exit 0) ⟨qE cs k [], HO es kn tm, []⟩ := loop_exit [kf (decide_eq_false (by omega : ¬ (k : Int) < cs.length))] (others 77 [0, 2, 4, 5, 6, 15, 16, 17]) 5 (by kernel_rfl)
theorem b5 (h : (0 : Int) ≤ (k : Int) ∧ (encs cs)[(k : Int).toNat]? = some (enc x)) : PieceC P G none 5 q5 ⟨qE cs k [], HO es kn tm, []⟩ ⟨qE cs k [(8, .ptr 5 0)], HO es kn tm ++ [.box (enc x)], []⟩ := piece_of [ko (.elem (enc x)), kp h] (others 77 [0, 2, 4, 5, 6, 15, 16, 17, 8]) 6 (by kernel_rfl)
theorem b6 : PieceC P G none 5 q6 ⟨qE cs k [(8, .ptr 5 0)], HO es kn tm ++ [.box (enc x)], []⟩ ⟨qE cs k [(8, .ptr 5 0), (9, .ptr 6 0)], HO es kn tm ++ [.box (enc x), .box (dt x)], []⟩ := piece_of [] (others 77 [0, 2, 4, 5, 6, 15, 16, 17, 8, 9]) 7 (by kernel_rfl)
theorem b7 (h : MapGet P 57 tm (dotV x.dv x.sq) (int 0) (int t) ok) : PieceC P G none 5 q7 ⟨qE cs k [(8, .ptr 5 0), (9, .ptr 6 0)], HO es kn tm ++ [.box (enc x), .box (dt x)], []⟩ ⟨qE cs k [(8, .ptr 5 0), (9, .ptr 6 0), (10, int t)], HO es kn tm ++ [.box (enc x), .box (dt x)], []⟩ := piece_of [ko (.mget (int t) ok), kp h] (others 77 [0, 2, 4, 5, 6, 15, 16, 17, 8, 9, 10]) 7 (by kernel_rfl)
theorem b8a (hv : CallC P G 29 [cel x] [] (.ret (bool false)) []) : PieceC P G none 5 q8 ⟨qE cs k [(8, .ptr 5 0), (9, .ptr 6 0), (10, int t)], HO es kn tm ++ [.box (enc x), .box (dt x)], []⟩ ⟨qE cs k [(8, .ptr 5 0), (9, .ptr 6 0), (49, bool true)], HO es kn tm ++ [.box (enc x), .box (dt x)], []⟩ :=
  piece_of [kc [] hv, kt (rfl : (!false) = true), kt (Eq.refl true)] (others 77 [0, 2, 4, 5, 6, 15, 16, 17, 8, 9, 49]) 7 (by kernel_rfl)
theorem b8b (hv : CallC P G 29 [cel x] [] (.ret (bool true)) []) (h : MapGet P 31 kn (idV x.dv x.sq x.at') (bool false) (bool true) ok) : PieceC P G none 5 q8 ⟨qE cs k [(8, .ptr 5 0), (9, .ptr 6 0), (10, int t)], HO es kn tm ++ [.box (enc x), .box (dt x)], []⟩ ⟨qE cs k [(8, .ptr 5 0), (9, .ptr 6 0), (49, bool true)], HO es kn tm ++ [.box (enc x), .box (dt x)], []⟩ :=
  piece_of [kc [] hv, kf (rfl : (!true) = false), ko (.mget (bool true) ok), kp h, kt (Eq.refl true)] (others 77 [0, 2, 4, 5, 6, 15, 16, 17, 8, 9, 49]) 7 (by kernel_rfl)
theorem b8c (hv : CallC P G 29 [cel x] [] (.ret (bool true)) []) (h : MapGet P 31 kn (idV x.dv x.sq x.at') (bool false) (bool false) ok) (ht : (t != 0) = false) : PieceC P G none 5 q8 ⟨qE cs k [(8, .ptr 5 0), (9, .ptr 6 0), (10, int t)], HO es kn tm ++ [.box (enc x), .box (dt x)], []⟩ ⟨qE cs k [(8, .ptr 5 0), (9, .ptr 6 0), (49, bool false)], HO es kn tm ++ [.box (enc x), .box (dt x)], []⟩ :=
  piece_of [kc [] hv, kf (rfl : (!true) = false), ko (.mget (bool false) ok), kp h, kf (Eq.refl false), kf ht] (others 77 [0, 2, 4, 5, 6, 15, 16, 17, 8, 9, 49]) 7 (by kernel_rfl)
theorem b8d (hv : CallC P G 29 [cel x] [] (.ret (bool true)) []) (h : MapGet P 31 kn (idV x.dv x.sq x.at') (bool false) (bool false) ok) (ht : (t != 0) = true) : PieceC P G none 5 q8 ⟨qE cs k [(8, .ptr 5 0), (9, .ptr 6 0), (10, int t)], HO es kn tm ++ [.box (enc x), .box (dt x)], []⟩ ⟨qE cs k [(8, .ptr 5 0), (9, .ptr 6 0), (49, bool (t != x.tm))], HO es kn tm ++ [.box (enc x), .box (dt x)], []⟩ :=
  piece_of [kc [] hv, kf (rfl : (!true) = false), ko (.mget (bool false) ok), kp h, kf (Eq.refl false), kt ht] (others 77 [0, 2, 4, 5, 6, 15, 16, 17, 8, 9, 49]) 7 (by kernel_rfl)
theorem b9 : PieceC P G none 5 q9 ⟨qE cs k [(8, .ptr 5 0), (9, .ptr 6 0), (49, bool false)], HO es kn tm ++ [.box (enc x), .box (dt x)], []⟩ ⟨qE cs k [(8, .ptr 5 0), (9, .ptr 6 0)], HO es kn tm ++ [.box (enc x), .box (dt x)], []⟩ := piece_of [kf (Eq.refl false)] (others 77 [0, 2, 4, 5, 6, 15, 16, 17, 8, 9]) 7 (by kernel_rfl)
theorem b10 (kn' tm' : List (Value × AV)) (h1 : MapPut P 31 kn (idV x.dv x.sq x.at') (bool true) kn') (h2 : MapPut P 57 tm (dotV x.dv x.sq) (int x.tm) tm') : PieceC P G none 5 q10 ⟨qE cs k [(8, .ptr 5 0), (9, .ptr 6 0)], HO es kn tm ++ [.box (enc x), .box (dt x)], []⟩ ⟨qE cs k [(8, .ptr 5 0)], HO es kn' tm' ++ [.box (enc x), .box (dt x)], []⟩ :=
  piece_of [ko (.mput kn'), ko (.mput tm'), kp h1, kp h2] (others 77 [0, 2, 4, 5, 6, 15, 16, 17, 8]) 7 (by kernel_rfl)
theorem b11a (es' : List (Value × AV)) (h : MapEnt P 31 es (idV x.ad x.as' x.aa) nilS nilS i es') (hi : i < es'.length) : PieceC P G none 7 q11 ⟨qE cs k [(8, .ptr 5 0)], HO es kn tm ++ [.box (enc x), .box (dt x)], []⟩ ⟨qE cs k [], HO (setE es' i (.own 7 0 0 1)) kn tm ++ [.box (enc x), .box (dt x), .arr 0 9 false [enc x]], []⟩ :=
  piece_of [ko (.ment nilS i es'), kp h, kp (show [enc x] ≠ [] by simp), kp (show 1 * 80 ≤ 140737488355328 by decide), kp hi] (others 77 [0, 2, 4, 5, 6, 15, 16, 17]) 8 (by kernel_rfl)
theorem b11b (es' : List (Value × AV)) (h : MapEnt P 31 es (idV x.ad x.as' x.aa) nilS (.own 7 0 0 n) i es') (hn : n = xs.length) (hm : (n + 1) * 80 ≤ 140737488355328) (hi : i < es'.length) : PieceC P G none 8 q11 ⟨qE cs k [(8, .ptr 5 0)], HO es kn tm ++ [.box (enc x), .box (dt x)] ++ [.arr 0 9 false xs], []⟩ ⟨qE cs k [], HO (setE es' i (.own 7 1 0 (n + 1))) kn tm ++ [.box (enc x), .box (dt x), .arr 1 9 false (xs ++ [enc x])], []⟩ :=
  piece_of [ko (.ment (.own 7 0 0 n) i es'), kp h, kp (rfl : 0 = 0), kp hn, kp hm, kp hi] (others 77 [0, 2, 4, 5, 6, 15, 16, 17]) 8 (by kernel_rfl)
theorem b12 (hk : k < 1000000) : PieceC P G none 5 q12 ⟨qE cs k [], HO es kn tm, []⟩ ⟨qE cs (k + 1) [], HO es kn tm, []⟩ := by
  have h : PieceC P G none 5 q12 ⟨qE cs k [], HO es kn tm, []⟩ ⟨slots 77 [(0, ces cs), (2, .ptr 0 0), (4, .ptr 2 0), (5, .mp 3), (6, .mp 4), (15, ces cs), (16, int cs.length), (17, int (IntKind.wrap .i64 ((k : Int) + 1)))], HO es kn tm, []⟩ := piece_of [] (others 77 [0, 2, 4, 5, 6, 15, 16, 17]) 5 (by kernel_rfl)
  have e : IntKind.wrap .i64 ((k : Int) + 1) = ((k + 1 : Nat) : Int) := by
    simp [IntKind.wrap, IntKind.bits, IntKind.signed]; omega
  rw [e] at h
  exact h
end
end Go.Sq

/- SEQUENCE, 24: a row put among the view's objects, and let go again. -/
namespace Go.Sq
open Go Go.Am Go.Proofs Go.Seat

def ALL (_ : ID) : Prop := True
theorem esF_len (us : List Fe) : (esF us).length = us.length := by simp [esF]
def esO (us : List Fe) (f : Fe) (y : AV) (bs : List Fe) : List (Value × AV) := esF us ++ (f.key, y) :: esF bs
theorem esO_lit (us : List Fe) (f : Fe) (bs : List Fe) : esO us f (.lit f.v) bs = esF (us ++ f :: bs) := by simp [esO, esF]
theorem esO_keys (us : List Fe) (f : Fe) (y z : AV) (bs : List Fe) : (esO us f y bs).map (·.1) = (esO us f z bs).map (·.1) := by simp [esO]
theorem esO_len (us : List Fe) (f : Fe) (y : AV) (bs : List Fe) : (esO us f y bs).length = us.length + (bs.length + 1) := by simp [esO, esF]
theorem esO_at (us : List Fe) (f : Fe) (y : AV) (bs : List Fe) (j : Nat) : atE (esO us f y bs) j = if j = us.length then y else atE (esO us f (.lit f.v) bs) j := by
  unfold atE esO
  rw [List.getD_eq_getElem?_getD, List.getD_eq_getElem?_getD]
  split
  · rename_i h
    subst h
    rw [List.getElem?_append_right (by rw [esF_len]; omega), esF_len]
    simp
  · rename_i h
    rcases Nat.lt_or_ge j us.length with hl | hl
    · rw [List.getElem?_append_left (by rw [esF_len]; exact hl), List.getElem?_append_left (by rw [esF_len]; exact hl)]
    · rw [List.getElem?_append_right (by rw [esF_len]; exact hl), List.getElem?_append_right (by rw [esF_len]; exact hl), esF_len]
      obtain ⟨m, hm⟩ : ∃ m, j - us.length = m + 1 := ⟨j - us.length - 1, by omega⟩
      rw [hm]
      simp
theorem esO_litat (us : List Fe) (f : Fe) (bs : List Fe) (j : Nat) : (∃ v, atE (esO us f (.lit f.v) bs) j = .lit v) ∨ us.length + (bs.length + 1) ≤ j := by
  rw [esO_lit]
  rcases Nat.lt_or_ge j (esF (us ++ f :: bs)).length with h | h
  · left
    obtain ⟨k, hm⟩ := atE_mem h
    obtain ⟨g, _, hg⟩ := List.mem_map.1 hm
    exact ⟨g.v, (Prod.mk.inj hg).2.symm⟩
  · right
    rw [esF_len] at h
    simpa using h
theorem setE_esO (us : List Fe) (f : Fe) (y z : AV) (bs : List Fe) : setE (esO us f y bs) us.length z = esO us f z bs := by
  unfold setE esO
  have : us.length = (esF us).length := (esF_len us).symm
  rw [this]
  apply List.ext_getElem?
  intro i
  rw [List.getElem?_modify]
  rcases Nat.lt_trichotomy i (esF us).length with h | h | h
  · rw [List.getElem?_append_left h, List.getElem?_append_left h]
    simp [Nat.ne_of_gt h]
  · subst h
    rw [List.getElem?_append_right (by omega), List.getElem?_append_right (by omega)]
    simp
  · rw [List.getElem?_append_right (by omega), List.getElem?_append_right (by omega)]
    obtain ⟨m, hm⟩ : ∃ m, i - (esF us).length = m + 1 := ⟨i - (esF us).length - 1, by omega⟩
    rw [hm]
    simp [Nat.ne_of_lt h]
def lits (l : List (Value × AV)) : Prop := ∀ e ∈ l, ∃ v, e.2 = .lit v
theorem lits_ids {l : List (Value × AV)} (h : lits l) (n : Nat) : ∀ e ∈ l, e.2.idsLt n = true := fun e he => by
  obtain ⟨v, hv⟩ := h e he
  rw [hv]; rfl
theorem rep_arr {V : View} {w : World} {v : Value} {b cap : Nat} {l : List CE} {c : Array Value} {t : TypeId} {g : Nat} (h : Kid w v b l cap c t) (hw : V.w = w) : ObjRep V b (.arr g 9 false (encs l)) := by
  subst hw
  refine ⟨t, c, h.blk, by rw [encs_length, ← h.size]; exact Nat.mul_le_mul_right _ h.le, fun x hx => ?_, fun k j hk hj => ?_⟩
  · obtain ⟨y, _, rfl⟩ := List.mem_map.1 hx
    rfl
  · rw [encs_length] at hk
    have hx : l[k]? = some l[k] := List.getElem?_eq_getElem hk
    refine ⟨_, h.cell k l[k] j hx hj, ?_, ?_⟩
    · have hj' : j < (encV l[k]).length := hj
      refine encV_one l[k] _ ?_
      rw [List.getD_eq_getElem?_getD, List.getElem?_eq_getElem hj']
      exact List.getElem_mem hj'
    · have e : (encs l).getD k [] = enc l[k] := by rw [List.getD_eq_getElem?_getD, encs_get?, hx]; rfl
      rw [e]
      match j, hj with
      | 0, _ => exact .pure _ _ (.lit _)
      | 1, _ => exact .pure _ _ (.lit _)
      | 2, _ => exact .pure _ _ (.lit _)
      | 3, _ => exact .pure _ _ (.lit _)
      | 4, _ => exact .pure _ _ (.lit _)
      | 5, _ => exact .pure _ _ (.lit _)
      | 6, _ => exact .pure _ _ (.lit _)
      | 7, _ => exact .pure _ _ (.lit _)
      | 8, _ => exact .pure _ _ (.lit _)
def focus (V : View) (b : Nat) (H : List AObj) : View := { V with H := H, ρ := fun i => if i = 7 then b else V.ρ i }
def HF (es kn tm : List (Value × AV)) (o5 o6 : AObj) (g : Nat) (l : List CE) : List AObj := HO es kn tm ++ [o5, o6, .arr g 9 false (encs l)]
theorem focus_alter {V : View} {us bs : List Fe} {f : Fe} {y : AV} {kn tm : List (Value × AV)} {o5 o6 : AObj} {l : List CE} {g b : Nat} (hH : V.H = HO (esF (us ++ f :: bs)) kn tm ++ [o5, o6]) : Alter 7 V (focus V b (HF (esO us f y bs) kn tm o5 o6 g l)) := by
  refine ⟨fun _ _ h => ⟨rfl, h⟩, fun id h1 h2 => ⟨if_neg (by omega), rfl, ?_⟩⟩
  show (HF (esO us f y bs) kn tm o5 o6 g l)[id]? = V.H[id]? ∨ ∃ e e', V.H[id]? = some (.map e) ∧ (HF (esO us f y bs) kn tm o5 o6 g l)[id]? = some (.map e')
  rw [hH]
  match id, h1 with
  | 0, _ => exact .inl rfl
  | 1, _ => exact .inr ⟨_, _, rfl, rfl⟩
  | 2, _ => exact .inl rfl
  | 3, _ => exact .inl rfl
  | 4, _ => exact .inl rfl
  | 5, _ => exact .inl rfl
  | 6, _ => exact .inl rfl
theorem focus_heap {V : View} {us bs : List Fe} {f : Fe} {kn tm : List (Value × AV)} {x : CE} (hG : HeapRep G V) (hH : V.H = HO (esF (us ++ f :: bs)) kn tm ++ [.box (enc x), .box (dt x)]) (hF : FamOk V ALL (us ++ f :: bs)) (hkn : lits kn) (htm : lits tm) :
    HeapRep G (focus V f.blk (HF (esO us f (.own 7 0 0 f.l.length) bs) kn tm (.box (enc x)) (.box (dt x)) 0 f.l)) := by
  have hf : f ∈ us ++ f :: bs := by simp
  obtain ⟨cap, c, t, hk⟩ := hF.kid f hf trivial
  have hoff := hF.off f hf trivial
  have hM := hF.mt f hf trivial
  have h7 : V.H.length = 7 := by rw [hH]; rfl
  have h8 : (focus V f.blk (HF (esO us f (.own 7 0 0 f.l.length) bs) kn tm (.box (enc x)) (.box (dt x)) 0 f.l)).H.length = 8 := rfl
  have hal := focus_alter (y := .own 7 0 0 f.l.length) (l := f.l) (g := 0) (b := f.blk) hH
  refine HeapRep.alter hal hG (fun id hid => ?_) (fun i j hi hj e => ?_) fun id o ho => ?_
  · show (if id = 7 then f.blk else V.ρ id) < V.w.heap.size
    split
    · exact hk.lt
    · exact hG.lt id (by omega)
  · have e' : (if i = 7 then f.blk else V.ρ i) = (if j = 7 then f.blk else V.ρ j) := e
    rw [h8] at hi hj
    split at e' <;> split at e'
    · omega
    · exact absurd e'.symm (hoff j (by omega))
    · exact absurd e' (hoff i (by omega))
    · exact hG.inj i j (by omega) (by omega) e'
  · have hi : id < 8 := (List.getElem?_eq_some_iff.1 ho).1
    have mt : ∀ i o, V.H[i]? = some o → i ≠ 7 → o.open_ = true → (focus V f.blk (HF (esO us f (.own 7 0 0 f.l.length) bs) kn tm (.box (enc x)) (.box (dt x)) 0 f.l)).M ((focus V f.blk (HF (esO us f (.own 7 0 0 f.l.length) bs) kn tm (.box (enc x)) (.box (dt x)) 0 f.l)).ρ i) := fun i o h hne hop => by
      show V.M (if i = 7 then f.blk else V.ρ i)
      rw [if_neg hne]
      exact hG.mutb i o h hop
    have keep : ∀ i o, i < 7 → V.H[i]? = some o → o.idsLt 7 → ((i < 7 ∧ V.H[i]? = some o ∧ o.idsLt 7) ∨ ObjRep (focus V f.blk (HF (esO us f (.own 7 0 0 f.l.length) bs) kn tm (.box (enc x)) (.box (dt x)) 0 f.l)) ((focus V f.blk (HF (esO us f (.own 7 0 0 f.l.length) bs) kn tm (.box (enc x)) (.box (dt x)) 0 f.l)).ρ i) o) ∧ (o.open_ = true → (focus V f.blk (HF (esO us f (.own 7 0 0 f.l.length) bs) kn tm (.box (enc x)) (.box (dt x)) 0 f.l)).M ((focus V f.blk (HF (esO us f (.own 7 0 0 f.l.length) bs) kn tm (.box (enc x)) (.box (dt x)) 0 f.l)).ρ i)) := fun i o hi h h2 => ⟨.inl ⟨hi, h, h2⟩, mt i o h (by omega)⟩
    match id, hi with
    | 0, _ => injection ho with ho; subst ho; exact keep 0 _ (by decide) (by rw [hH]; rfl) rfl
    | 1, _ =>
      injection ho with ho; subst ho
      refine ⟨.inr ?_, fun _ => mt 1 (.map (esF (us ++ f :: bs))) (by rw [hH]; rfl) (by decide) rfl⟩
      obtain ⟨ents, clock, k1, k2, k3, k4, k5, k6⟩ := hG.obj 1 (.map (esF (us ++ f :: bs))) (by rw [hH]; rfl)
      rw [← esO_lit] at k2 k3 k6
      refine ⟨ents, clock, k1, k2.trans (esO_keys us f _ _ bs), by rw [esO_keys us f _ (.lit f.v) bs]; exact k3, k4, k5, fun j hj => ?_⟩
      rw [esO_len] at hj k6
      rw [esO_at]
      split
      · rename_i e
        have hr := k6 j hj
        rw [esO_at, if_pos e] at hr
        rw [rep_lit hr]
        refine .own 7 0 0 f.l.length f.v ⟨by rw [hk.val]; rfl, ?_⟩
        show 0 ≤ 0 ∧ (0 = 0 → OwnRep _ 7 9 0 f.l.length f.v)
        exact ⟨Nat.le_refl _, fun _ => ⟨_, cap, c, t, hk.val, fun _ => rfl, hk.le, hk.max, hk.blk, by rw [Nat.zero_add]; exact hk.size⟩⟩
      · rcases esO_litat us f bs j with ⟨v, hv⟩ | h
        · have hr := k6 j hj
          rw [hv] at hr ⊢
          rw [rep_lit hr]
          exact .pure _ _ (.lit _)
        · omega
    | 2, _ => injection ho with ho; subst ho; exact keep 2 _ (by decide) (by rw [hH]; rfl) rfl
    | 3, _ => injection ho with ho; subst ho; exact keep 3 _ (by decide) (by rw [hH]; rfl) (lits_ids hkn 7)
    | 4, _ => injection ho with ho; subst ho; exact keep 4 _ (by decide) (by rw [hH]; rfl) (lits_ids htm 7)
    | 5, _ => injection ho with ho; subst ho; exact keep 5 _ (by decide) (by rw [hH]; rfl) rfl
    | 6, _ => injection ho with ho; subst ho; exact keep 6 _ (by decide) (by rw [hH]; rfl) rfl
    | 7, _ =>
      injection ho with ho; subst ho
      exact ⟨.inr (rep_arr hk rfl), fun _ => hM⟩

theorem unfocus {V : View} {us bs : List Fe} {f : Fe} {kn tm : List (Value × AV)} {o5 o6 : AObj} {g : Nat} {l : List CE} (hG : HeapRep G V) (hH : V.H = HF (esO us f (.own 7 g 0 l.length) bs) kn tm o5 o6 g l) (hF : FamOk V ALL (us ++ bs)) (hkn : lits kn) (htm : lits tm) (hl : l ≠ []) :
    ∃ v, HeapRep G { V with H := HO (esF (us ++ ⟨f.a, f.b, f.c, v, V.ρ 7, l⟩ :: bs)) kn tm } ∧ FamOk { V with H := HO (esF (us ++ ⟨f.a, f.b, f.c, v, V.ρ 7, l⟩ :: bs)) kn tm } ALL (us ++ ⟨f.a, f.b, f.c, v, V.ρ 7, l⟩ :: bs) ∧
      Alter 5 V { V with H := HO (esF (us ++ ⟨f.a, f.b, f.c, v, V.ρ 7, l⟩ :: bs)) kn tm } := by
  have h8 : V.H.length = 8 := by rw [hH]; rfl
  obtain ⟨ents, clock, k1, k2, k3, k4, k5, k6⟩ := hG.obj 1 (.map (esO us f (.own 7 g 0 l.length) bs)) (by rw [hH]; rfl)
  have hlen : us.length < (esO us f (.own 7 g 0 l.length) bs).length := by rw [esO_len]; omega
  have hr := k6 us.length hlen
  rw [esO_at, if_pos rfl] at hr
  generalize hv : atV ents us.length = v at hr
  refine ⟨v, ?_⟩
  have hown := (rep_own hr).2
  rw [hH] at hown
  have hown : OwnRep V 7 9 0 l.length v := hown.2 rfl
  obtain ⟨A, cap, c, t, rfl, o1, o2, o3, o4, o5'⟩ := hown
  obtain ⟨t', c', a1, a2, a3, a4⟩ := hG.obj 7 (.arr g 9 false (encs l)) (by rw [hH]; rfl)
  rw [o4] at a1
  injection a1 with a1
  injection a1 with e1 e2 e3
  subst e1 e2
  rw [encs_length] at a2
  have hc0 : cap ≠ 0 := by
    have := List.length_pos_iff.2 hl
    omega
  have hkid : Kid V.w (.slice A l.length cap) (V.ρ 7) l cap c t := by
    refine ⟨by rw [o1 hc0], o4, o2, o3, by rw [Nat.zero_add] at o5'; exact o5', fun k x j hk hj => ?_⟩
    have hkl : k < l.length := (List.getElem?_eq_some_iff.1 hk).1
    obtain ⟨u, u1, _, u3⟩ := a4 k j (by rw [encs_length]; exact hkl) hj
    have e : (encs l).getD k [] = enc x := by rw [List.getD_eq_getElem?_getD, encs_get?, hk]; rfl
    rw [e] at u3
    rw [u1]
    congr 1
    match j, hj with
    | 0, _ => exact rep_lit u3
    | 1, _ => exact rep_lit u3
    | 2, _ => exact rep_lit u3
    | 3, _ => exact rep_lit u3
    | 4, _ => exact rep_lit u3
    | 5, _ => exact rep_lit u3
    | 6, _ => exact rep_lit u3
    | 7, _ => exact rep_lit u3
    | 8, _ => exact rep_lit u3
  generalize hvv : Value.slice A l.length cap = v at *
  have hM7 : V.M (V.ρ 7) := hG.mutb 7 (.arr g 9 false (encs l)) (by rw [hH]; rfl) rfl
  have hal : Alter 5 V { V with H := HO (esF (us ++ ⟨f.a, f.b, f.c, v, V.ρ 7, l⟩ :: bs)) kn tm } := by
    refine ⟨fun _ _ h => ⟨rfl, h⟩, fun id h1 h2 => ⟨rfl, rfl, ?_⟩⟩
    show (HO (esF (us ++ ⟨f.a, f.b, f.c, v, V.ρ 7, l⟩ :: bs)) kn tm)[id]? = V.H[id]? ∨ ∃ e e', V.H[id]? = some (.map e) ∧ (HO (esF (us ++ ⟨f.a, f.b, f.c, v, V.ρ 7, l⟩ :: bs)) kn tm)[id]? = some (.map e')
    rw [hH]
    match id, h1 with
    | 0, _ => exact .inl rfl
    | 1, _ => exact .inr ⟨_, _, rfl, rfl⟩
    | 2, _ => exact .inl rfl
    | 3, _ => exact .inl rfl
    | 4, _ => exact .inl rfl
  refine ⟨HeapRep.alter hal hG (fun id hid => hG.lt id (by have : id < 5 := hid; omega)) (fun i j hi hj e => hG.inj i j (by have : i < 5 := hi; omega) (by have : j < 5 := hj; omega) e) fun id o ho => ?_, ?_, hal⟩
  · have hi : id < 5 := (List.getElem?_eq_some_iff.1 ho).1
    have keep : ∀ i o, i < 5 → V.H[i]? = some o → o.idsLt 5 → ((i < 5 ∧ V.H[i]? = some o ∧ o.idsLt 5) ∨ ObjRep { V with H := HO (esF (us ++ ⟨f.a, f.b, f.c, v, V.ρ 7, l⟩ :: bs)) kn tm } (V.ρ i) o) ∧ (o.open_ = true → V.M (V.ρ i)) := fun i o hi h h2 => ⟨.inl ⟨hi, h, h2⟩, fun hop => hG.mutb i o h hop⟩
    match id, hi with
    | 0, _ => injection ho with ho; subst ho; exact keep 0 _ (by decide) (by rw [hH]; rfl) rfl
    | 1, _ =>
      injection ho with ho; subst ho
      refine ⟨.inr ?_, fun _ => hG.mutb 1 (.map (esO us f (.own 7 g 0 l.length) bs)) (by rw [hH]; rfl) rfl⟩
      have ef : esF (us ++ ⟨f.a, f.b, f.c, v, V.ρ 7, l⟩ :: bs) = esO us f (.lit v) bs := by simp [esO, esF, Fe.key]
      rw [ef]
      refine ⟨ents, clock, k1, k2.trans (esO_keys us f _ _ bs), by rw [esO_keys us f _ (.own 7 g 0 l.length) bs]; exact k3, k4, k5, fun j hj => ?_⟩
      rw [esO_len] at hj k6
      rw [esO_at]
      split
      · rename_i e
        rw [e, hv]
        exact .pure _ _ (.lit _)
      · rename_i hne
        rcases esO_litat us f bs j with ⟨u, hu⟩ | h
        · have hr := k6 j hj
          rw [esO_at, if_neg hne, hu] at hr
          rw [hu, rep_lit hr]
          exact .pure _ _ (.lit _)
        · omega
    | 2, _ => injection ho with ho; subst ho; exact keep 2 _ (by decide) (by rw [hH]; rfl) rfl
    | 3, _ => injection ho with ho; subst ho; exact keep 3 _ (by decide) (by rw [hH]; rfl) (lits_ids hkn 5)
    | 4, _ => injection ho with ho; subst ho; exact keep 4 _ (by decide) (by rw [hH]; rfl) (lits_ids htm 5)
  · have mem : ∀ q, q ∈ us ++ (⟨f.a, f.b, f.c, v, V.ρ 7, l⟩ : Fe) :: bs → q = ⟨f.a, f.b, f.c, v, V.ρ 7, l⟩ ∨ q ∈ us ++ bs := fun q hq => by
      rcases List.mem_append.1 hq with h | h
      · exact .inr (List.mem_append_left _ h)
      · rcases List.mem_cons.1 h with h | h
        · exact .inl h
        · exact .inr (List.mem_append_right _ h)
    refine ⟨fun q hq _ => ?_, fun q hq _ => ?_, fun q hq _ i hi => ?_, fun q hq r hr _ _ e => ?_⟩
    · rcases mem q hq with rfl | h
      · exact ⟨cap, c, t, hkid⟩
      · exact hF.kid q h trivial
    · rcases mem q hq with rfl | h
      · exact hM7
      · exact hF.mt q h trivial
    · have hi5 : i < 5 := hi
      rcases mem q hq with rfl | h
      · intro e
        have := hG.inj i 7 (by omega) (by omega) e
        omega
      · exact hF.off q h trivial i (by omega)
    · rcases mem q hq with rfl | h <;> rcases mem r hr with rfl | h'
      · rfl
      · exact absurd e (hF.off r h' trivial 7 (by omega))
      · exact absurd e.symm (hF.off q h trivial 7 (by omega))
      · exact hF.apart q h r h' trivial trivial e
end Go.Sq

/- SEQUENCE, plain law 2: what forms a list is a forest. -/
namespace Go.Sq
open Go Go.Am

theorem nodup_len {α : Type} [DecidableEq α] : ∀ {L l : List α}, L.Nodup → (∀ x ∈ L, x ∈ l) → L.length ≤ l.length
  | [], _, _, _ => Nat.zero_le _
  | x :: L, l, h, hs => by
    obtain ⟨h1, h2⟩ := List.nodup_cons.1 h
    have hx := hs x (by simp)
    have := nodup_len (l := l.erase x) h2 fun y hy => (List.mem_erase_of_ne (fun e : y = x => h1 (by rw [← e]; exact hy))).2 (hs y (List.mem_cons_of_mem _ hy))
    rw [List.length_erase_of_mem hx] at this
    have := List.length_pos_of_mem hx
    rw [List.length_cons]; omega

/-! What the first loop of Forms asks -/
theorem clN_iff {l : List CE} {x : CE} : ∀ {n i : Nat}, i + n ≤ l.length → (clN l x n i = false ↔ ∀ j y, i ≤ j → j < i + n → l[j]? = some y → clash x y = false)
  | 0, i, _ => by simp [clN]; intro j y h1 h2; omega
  | n + 1, i, h => by
    have hi : l[i]? = some (l[i]'(by omega)) := List.getElem?_eq_getElem (by omega)
    rw [clN, hi]
    simp only [Bool.or_eq_false_iff, clN_iff (l := l) (x := x) (n := n) (i := i + 1) (by omega)]
    constructor
    · rintro ⟨h1, h2⟩ j y hj1 hj2 hy
      by_cases e : j = i
      · subst e; rw [hi] at hy; cases hy; exact h1
      · exact h2 j y (by omega) (by omega) hy
    · intro h'
      exact ⟨h' i _ (by omega) (by omega) hi, fun j y h1 h2 => h' j y (by omega) (by omega)⟩
theorem foN_iff {l : List CE} : ∀ {n k : Nat}, k + n = l.length → (foN l n k = true ↔ ∀ j x, k ≤ j → l[j]? = some x → okC l j x = true)
  | 0, k, h => by
    simp only [foN, true_iff]
    intro j x hj hx
    have := (List.getElem?_eq_some_iff.1 hx).1
    omega
  | n + 1, k, h => by
    have hi : l[k]? = some (l[k]'(by omega)) := List.getElem?_eq_getElem (by omega)
    rw [foN, hi]
    simp only [Bool.and_eq_true, foN_iff (l := l) (n := n) (k := k + 1) (by omega)]
    constructor
    · rintro ⟨h1, h2⟩ j x hj hx
      by_cases e : j = k
      · subst e; rw [hi] at hx; cases hx; exact h1
      · exact h2 j x (by omega) hx
    · intro h'
      exact ⟨h' k _ (by omega) hi, fun j x h1 => h' j x (by omega)⟩
structure Ok (l : List CE) : Prop where
  valid : ∀ x ∈ l, validB x = true
  apart : l.Pairwise fun y x => clash x y = false
theorem fo_iff {l : List CE} : foN l l.length 0 = true ↔ Ok l := by
  rw [foN_iff (by omega)]
  constructor
  · intro h
    refine ⟨fun x hx => ?_, List.pairwise_iff_getElem.2 fun i j hi hj hij => ?_⟩
    · obtain ⟨j, hj⟩ := List.mem_iff_getElem?.1 hx
      have := h j x (by omega) hj
      simp only [okC, Bool.and_eq_true] at this
      exact this.1
    · have := h j l[j] (by omega) (List.getElem?_eq_getElem hj)
      simp only [okC, Bool.and_eq_true, Bool.not_eq_true'] at this
      exact (clN_iff (by omega)).1 this.2 i l[i] (by omega) (by omega) (List.getElem?_eq_getElem hi)
  · intro h j x _ hx
    obtain ⟨hj, rfl⟩ := List.getElem?_eq_some_iff.1 hx
    simp only [okC, Bool.and_eq_true, Bool.not_eq_true']
    refine ⟨h.valid _ (List.getElem_mem hj), (clN_iff (by omega)).2 fun i y _ hi hy => ?_⟩
    obtain ⟨hi', rfl⟩ := List.getElem?_eq_some_iff.1 hy
    exact List.pairwise_iff_getElem.1 h.apart i j hi' hj (by omega)
theorem clash_id {x y : CE} (h : clash x y = false) : y.id ≠ x.id := fun e => by
  simp only [CE.id, Prod.mk.injEq] at e
  simp [clash, e.1, e.2.1, e.2.2] at h
theorem Ok.ids {l : List CE} (h : Ok l) : Ids l := h.apart.imp fun {_ _} h => clash_id h
theorem Ok.one {l : List CE} (h : Ok l) {x y : CE} (hx : x ∈ l) (hy : y ∈ l) (e : x.id = y.id) : x = y := by
  obtain ⟨i, hi, rfl⟩ := List.getElem_of_mem hx
  obtain ⟨j, hj, rfl⟩ := List.getElem_of_mem hy
  rcases Nat.lt_trichotomy i j with h' | h' | h'
  · exact absurd e (List.pairwise_iff_getElem.1 h.ids i j hi hj h')
  · subst h'; rfl
  · exact absurd e.symm (List.pairwise_iff_getElem.1 h.ids j i hj hi h')
theorem valid_id {x : CE} (h : validB x = true) : x.id ≠ (0, 0, 0) := fun e => by
  simp only [CE.id, Prod.mk.injEq] at e
  simp [validB, idB, e.1, e.2.1, e.2.2] at h
theorem Ok.id0 {l : List CE} (h : Ok l) {x : CE} (hx : x ∈ l) : x.id ≠ (0, 0, 0) := valid_id (h.valid x hx)

/-! Levels -/
def lvl (l : List CE) : Nat → CE → Prop
  | 0, c => c.after = (0, 0, 0)
  | n + 1, c => ∃ p ∈ l, p.id = c.after ∧ lvl l n p
theorem lvl_one {l : List CE} (h : Ok l) : ∀ {n m : Nat} {c : CE}, lvl l n c → lvl l m c → n = m
  | 0, 0, _, _, _ => rfl
  | 0, m + 1, c, h1, ⟨p, hp, e, _⟩ => absurd (e.trans h1) (h.id0 hp)
  | n + 1, 0, c, ⟨p, hp, e, _⟩, h1 => absurd (e.trans h1) (h.id0 hp)
  | n + 1, m + 1, c, ⟨p, hp, e, h1⟩, ⟨q, hq, e', h2⟩ => by
    obtain rfl := h.one hp hq (e.trans e'.symm)
    rw [lvl_one h h1 h2]
theorem lvl_chain {l : List CE} (h : Ok l) : ∀ {n : Nat} {c : CE}, c ∈ l → lvl l n c → ∃ L : List CE, L.length = n + 1 ∧ L.Nodup ∧ (∀ x ∈ L, x ∈ l) ∧ ∀ x ∈ L, ∃ k, k ≤ n ∧ lvl l k x
  | 0, c, hc, h1 => ⟨[c], rfl, by simp, by simpa using hc, fun x hx => ⟨0, Nat.le_refl _, by rw [List.mem_singleton.1 hx]; exact h1⟩⟩
  | n + 1, c, hc, ⟨p, hp, e, h1⟩ => by
    obtain ⟨L, a1, a2, a3, a4⟩ := lvl_chain h hp h1
    have hcl : lvl l (n + 1) c := ⟨p, hp, e, h1⟩
    refine ⟨c :: L, by simp [a1], List.nodup_cons.2 ⟨fun hx => ?_, a2⟩, fun x hx => ?_, fun x hx => ?_⟩
    · obtain ⟨k, hk, hl⟩ := a4 c hx
      have := lvl_one h hl hcl
      omega
    · rcases List.mem_cons.1 hx with rfl | hx
      · exact hc
      · exact a3 x hx
    · rcases List.mem_cons.1 hx with rfl | hx
      · exact ⟨n + 1, Nat.le_refl _, hcl⟩
      · obtain ⟨k, hk, hl⟩ := a4 x hx
        exact ⟨k, by omega, hl⟩
theorem lvl_lt {l : List CE} (h : Ok l) {n : Nat} {c : CE} (hc : c ∈ l) (hl : lvl l n c) : n < l.length := by
  obtain ⟨L, a1, a2, a3, _⟩ := lvl_chain h hc hl
  have := nodup_len a2 a3
  omega

/-! rooted -/
theorem fI_none {p : CE → Bool} {v : List CE} : ∀ {n k : Nat}, k + n = v.length → fI p v n k = none → ∀ x j, k ≤ j → v[j]? = some x → p x = false
  | 0, k, h, _, x, j, hj, hx => by have := (List.getElem?_eq_some_iff.1 hx).1; omega
  | n + 1, k, h, h0, x, j, hj, hx => by
    have hi : v[k]? = some (v[k]'(by omega)) := List.getElem?_eq_getElem (by omega)
    rw [fI, hi] at h0
    simp only at h0
    split at h0
    · cases h0
    · rename_i hp
      by_cases e : j = k
      · subst e; rw [hi] at hx; cases hx; simpa using hp
      · exact fI_none (by omega) h0 x j (by omega) hx
theorem fX_none {p : CE → Bool} {v : List CE} (h : fX p v = none) : ∀ x ∈ v, p x = false := fun x hx => by
  obtain ⟨j, hj⟩ := List.mem_iff_getElem?.1 hx
  exact fI_none (by omega) h x j (by omega) hj
theorem pid_iff {a b c : Int} {x : CE} : pid a b c x = true ↔ x.id = (a, b, c) := by simp [pid, CE.id]
theorem rootN_iff {l : List CE} (h : Ok l) : ∀ {n : Nat} {c : CE}, rootN l n c = true ↔ ∃ m, m < n ∧ lvl l m c
  | 0, c => by simp [rootN]
  | n + 1, c => by
    rw [rootN]
    by_cases hz : (c.ad == 0 && (c.as' == 0 && c.aa == 0)) = true
    · rw [if_pos hz]
      simp only [true_iff]
      refine ⟨0, by omega, ?_⟩
      simp only [Bool.and_eq_true, beq_iff_eq] at hz
      simp [lvl, CE.after, hz]
    · rw [if_neg hz]
      have hz' : c.after ≠ (0, 0, 0) := fun e => hz (by simp only [CE.after, Prod.mk.injEq] at e; simp [e])
      cases hx : fX (pid c.ad c.as' c.aa) l with
      | none =>
        simp only [Bool.false_eq_true, false_iff]
        rintro ⟨m, _, hm⟩
        cases m with
        | zero => exact hz' hm
        | succ m =>
          obtain ⟨p, hp, e, _⟩ := hm
          have := fX_none hx p hp
          rw [Bool.eq_false_iff] at this
          exact this (pid_iff.2 e)
      | some j =>
        obtain ⟨y, hy, hpy⟩ := fX_get hx
        simp only [hy]
        have hyl := List.mem_of_getElem? hy
        have ey : y.id = c.after := pid_iff.1 hpy
        rw [rootN_iff h (n := n)]
        constructor
        · rintro ⟨m, hm, hl⟩
          exact ⟨m + 1, by omega, y, hyl, ey, hl⟩
        · rintro ⟨m, hm, hl⟩
          cases m with
          | zero => exact absurd hl hz'
          | succ m =>
            obtain ⟨p, hp, e, hl⟩ := hl
            obtain rfl := h.one hyl hp (ey.trans e.symm)
            exact ⟨m, by omega, hl⟩
theorem root_iff {l : List CE} (h : Ok l) {c : CE} (hc : c ∈ l) : rootB l c = true ↔ ∃ m, lvl l m c := by
  rw [rootB, rootN_iff h]
  exact ⟨fun ⟨m, _, hm⟩ => ⟨m, hm⟩, fun ⟨m, hm⟩ => ⟨m, by have := lvl_lt h hc hm; omega, hm⟩⟩
theorem roN_iff {l : List CE} : ∀ {n k : Nat}, k + n = l.length → (roN l n k = true ↔ ∀ j x, k ≤ j → l[j]? = some x → rootB l x = true)
  | 0, k, h => by
    simp only [roN, true_iff]
    intro j x hj hx
    have := (List.getElem?_eq_some_iff.1 hx).1
    omega
  | n + 1, k, h => by
    have hi : l[k]? = some (l[k]'(by omega)) := List.getElem?_eq_getElem (by omega)
    rw [roN, hi]
    simp only [Bool.and_eq_true, roN_iff (l := l) (n := n) (k := k + 1) (by omega)]
    constructor
    · rintro ⟨h1, h2⟩ j x hj hx
      by_cases e : j = k
      · subst e; rw [hi] at hx; cases hx; exact h1
      · exact h2 j x (by omega) hx
    · intro h'
      exact ⟨h' k _ (by omega) hi, fun j x h1 => h' j x (by omega)⟩
theorem forms_iff {l : List CE} : formsB l = true ↔ Ok l ∧ ∀ x ∈ l, ∃ m, lvl l m x := by
  rw [formsB, Bool.and_eq_true, fo_iff, roN_iff (by omega)]
  constructor
  · rintro ⟨h, h'⟩
    refine ⟨h, fun x hx => ?_⟩
    obtain ⟨j, hj⟩ := List.mem_iff_getElem?.1 hx
    exact (root_iff h hx).1 (h' j x (by omega) hj)
  · rintro ⟨h, h'⟩
    exact ⟨h, fun j x _ hx => (root_iff h (List.mem_of_getElem? hx)).2 (h' x (List.mem_of_getElem? hx))⟩

end Go.Sq

/- SEQUENCE, plain law 3: what is below; Order. -/
namespace Go.Sq
open Go Go.Am

theorem mem_below {l : List CE} {n : Nat} {a b c : Int} {z : CE} : z ∈ belowF l (n + 1) a b c ↔ ∃ y ∈ kids l a b c, z = y ∨ z ∈ belowF l n y.dv y.sq y.at' := by
  rw [belowF, List.mem_flatMap]
  simp only [List.mem_cons]
theorem below_in {l : List CE} (h : Ids l) : ∀ {n : Nat} {a b c : Int} {z : CE}, z ∈ belowF l n a b c → z ∈ l
  | 0, _, _, _, _, hz => by cases hz
  | n + 1, a, b, c, z, hz => by
    obtain ⟨y, hy, rfl | hz⟩ := mem_below.1 hz
    · exact ((mem_kids h).1 hy).1
    · exact below_in h hz
def Anc (l : List CE) : Nat → CE → CE → Prop
  | 0, z, y => z = y
  | k + 1, z, y => ∃ p ∈ l, p.id = z.after ∧ Anc l k p y
theorem Anc.one {l : List CE} (h : Ok l) : ∀ {k : Nat} {z y y' : CE}, Anc l k z y → Anc l k z y' → y = y'
  | 0, _, _, _, h1, h2 => h1.symm.trans h2
  | k + 1, z, y, y', ⟨p, hp, e, h1⟩, ⟨q, hq, e', h2⟩ => by
    obtain rfl := h.one hp hq (e.trans e'.symm)
    exact Anc.one h h1 h2
theorem Anc.lvl {l : List CE} {m : Nat} : ∀ {k : Nat} {z y : CE}, Anc l k z y → Sq.lvl l m y → Sq.lvl l (m + k) z
  | 0, _, _, h1, h2 => by cases h1; exact h2
  | k + 1, z, y, ⟨p, hp, e, h1⟩, h2 => ⟨p, hp, e, Anc.lvl h1 h2⟩
theorem Anc.snoc {l : List CE} {y y' : CE} (hy : y ∈ l) (e : y.id = y'.after) : ∀ {k : Nat} {z : CE}, Anc l k z y' → Anc l (k + 1) z y
  | 0, _, h1 => by cases h1; exact ⟨y, hy, e, rfl⟩
  | k + 1, z, ⟨p, hp, e', h1⟩ => ⟨p, hp, e', Anc.snoc hy e h1⟩
theorem below_anc {l : List CE} (h : Ids l) : ∀ {n : Nat} {y z : CE}, y ∈ l → z ∈ belowF l n y.dv y.sq y.at' → ∃ k, Anc l (k + 1) z y
  | 0, _, _, _, hz => by cases hz
  | n + 1, y, z, hy, hz => by
    obtain ⟨y', hy', hz⟩ := mem_below.1 hz
    obtain ⟨h1, h2⟩ := (mem_kids h).1 hy'
    have e : y.id = y'.after := h2.symm
    rcases hz with rfl | hz
    · exact ⟨0, y, hy, e, rfl⟩
    · obtain ⟨k, hk⟩ := below_anc h h1 hz
      exact ⟨k + 1, hk.snoc hy e⟩
theorem kids_lvl {l : List CE} (h : Ids l) {m : Nat} {x y : CE} (hx : x ∈ l) (hl : lvl l m x) (hy : y ∈ kids l x.dv x.sq x.at') : lvl l (m + 1) y :=
  ⟨x, hx, ((mem_kids h).1 hy).2.symm, hl⟩
theorem below_nodup {l : List CE} (h : Ok l) : ∀ {n : Nat} {a b c : Int} {m : Nat}, (∀ y ∈ kids l a b c, lvl l m y) → (belowF l n a b c).Nodup
  | 0, _, _, _, _, _ => by simp [belowF]
  | n + 1, a, b, c, m, hm => by
    have tree : ∀ {y z : CE}, y ∈ l → z = y ∨ z ∈ belowF l n y.dv y.sq y.at' → ∃ k, Anc l k z y := fun {y z} hy hz => by
      rcases hz with rfl | hz
      · exact ⟨0, rfl⟩
      · obtain ⟨k, hk⟩ := below_anc h.ids hy hz
        exact ⟨k + 1, hk⟩
    rw [belowF, List.Nodup, List.pairwise_flatMap]
    refine ⟨fun y hy => ?_, ?_⟩
    · have hyl := ((mem_kids h.ids).1 hy).1
      refine List.nodup_cons.2 ⟨fun hz => ?_, below_nodup h (m := m + 1) fun z hz => kids_lvl h.ids hyl (hm y hy) hz⟩
      obtain ⟨k, hk⟩ := below_anc h.ids hyl hz
      have := lvl_one h (hk.lvl (hm y hy)) (hm y hy)
      omega
    · refine (kids_desc h.ids a b c).nodup.imp_of_mem fun {y y'} hy hy' hne z hz z' hz' e => ?_
      subst e
      obtain ⟨k, hk⟩ := tree ((mem_kids h.ids).1 hy).1 (List.mem_cons.1 hz)
      obtain ⟨k', hk'⟩ := tree ((mem_kids h.ids).1 hy').1 (List.mem_cons.1 hz')
      have := lvl_one h (hk.lvl (hm y hy)) (hk'.lvl (hm y' hy'))
      obtain rfl : k = k' := by omega
      exact hne (hk.one h hk')
theorem root_kids {l : List CE} (h : Ids l) {y : CE} (hy : y ∈ kids l 0 0 0) : lvl l 0 y := ((mem_kids h).1 hy).2
def all (l : List CE) : List CE := belowF l (l.length + 1) 0 0 0
theorem all_nodup {l : List CE} (h : Ok l) : (all l).Nodup := below_nodup h fun _ hy => root_kids h.ids hy
theorem below_len {l : List CE} (h : Ok l) {n : Nat} {a b c : Int} {m : Nat} (hm : ∀ y ∈ kids l a b c, lvl l m y) : (belowF l n a b c).length ≤ l.length :=
  nodup_len (below_nodup h hm) fun _ hz => below_in h.ids hz
theorem deep_at {l : List CE} (h : Ok l) (hv : l.length ≤ 1000000) : ∀ {n m : Nat} {x : CE}, x ∈ l → lvl l m x → l.length ≤ n + m → Deep l n x.dv x.sq x.at'
  | 0, m, x, hx, hl, hn => by have := lvl_lt h hx hl; omega
  | n + 1, m, x, hx, hl, hn => by
    have hk : ∀ y ∈ kids l x.dv x.sq x.at', lvl l (m + 1) y := fun y hy => kids_lvl h.ids hx hl hy
    exact ⟨by have := below_len h (n := n + 1) hk; omega, fun y hy => deep_at h hv ((mem_kids h.ids).1 hy).1 (hk y hy) (by omega)⟩
theorem deep_all {l : List CE} (h : Ok l) (hv : l.length ≤ 1000000) : Deep l (l.length + 1) 0 0 0 :=
  ⟨by have := below_len h (n := l.length + 1) (m := 0) fun _ hy => root_kids h.ids hy; omega, fun y hy => deep_at h hv ((mem_kids h.ids).1 hy).1 (root_kids h.ids hy) (by omega)⟩
theorem below_child {l : List CE} (h : Ids l) {p z : CE} (hz : z ∈ l) (e : z.after = p.id) : ∀ {n : Nat} {a b c : Int}, p ∈ belowF l n a b c → z ∈ belowF l (n + 1) a b c
  | 0, _, _, _, hp => by cases hp
  | n + 1, a, b, c, hp => by
    obtain ⟨y, hy, rfl | hp⟩ := mem_below.1 hp
    · exact mem_below.2 ⟨p, hy, .inr (mem_below.2 ⟨z, (mem_kids h).2 ⟨hz, e⟩, .inl rfl⟩)⟩
    · exact mem_below.2 ⟨y, hy, .inr (below_child h hz e hp)⟩
theorem below_up {l : List CE} (h : Ids l) : ∀ {n : Nat} {a b c : Int} {z : CE}, z ∈ belowF l n a b c → z ∈ belowF l (n + 1) a b c
  | 0, _, _, _, _, hz => by cases hz
  | n + 1, a, b, c, z, hz => by
    obtain ⟨y, hy, rfl | hz⟩ := mem_below.1 hz
    · exact mem_below.2 ⟨_, hy, .inl rfl⟩
    · exact mem_below.2 ⟨y, hy, .inr (below_up h hz)⟩
theorem below_le {l : List CE} (h : Ids l) {n m : Nat} (hnm : n ≤ m) {a b c : Int} {z : CE} (hz : z ∈ belowF l n a b c) : z ∈ belowF l m a b c := by
  induction hnm with
  | refl => exact hz
  | step _ ih => exact below_up h ih
theorem below_of_lvl {l : List CE} (h : Ids l) : ∀ {m : Nat} {z : CE}, z ∈ l → lvl l m z → z ∈ belowF l (m + 1) 0 0 0
  | 0, z, hz, hl => mem_below.2 ⟨z, (mem_kids h).2 ⟨hz, hl⟩, .inl rfl⟩
  | m + 1, z, hz, ⟨p, hp, e, hl⟩ => below_child h hz e.symm (below_of_lvl h hp hl)
theorem mem_all {l : List CE} (h : Ok l) {z : CE} : z ∈ all l ↔ z ∈ l ∧ ∃ m, lvl l m z := by
  constructor
  · intro hz
    refine ⟨below_in h.ids hz, ?_⟩
    obtain ⟨y, hy, rfl | hz⟩ := mem_below.1 hz
    · exact ⟨0, root_kids h.ids hy⟩
    · obtain ⟨k, hk⟩ := below_anc h.ids ((mem_kids h.ids).1 hy).1 hz
      exact ⟨_, hk.lvl (root_kids h.ids hy)⟩
  · rintro ⟨hz, m, hm⟩
    exact below_le h.ids (by have := lvl_lt h hz hm; omega) (below_of_lvl h.ids hz hm)
theorem Ok.nodup {l : List CE} (h : Ok l) : l.Nodup := h.ids.imp fun {_ _} h e => h (by rw [e])
theorem all_len {l : List CE} (h : Ok l) : (all l).length = l.length ↔ ∀ x ∈ l, ∃ m, lvl l m x := by
  constructor
  · intro he x hx
    refine Classical.byContradiction fun hn => ?_
    have hno : x ∉ all l := fun hx' => hn ((mem_all h).1 hx').2
    have := nodup_len (l := l.erase x) (all_nodup h) fun z hz => (List.mem_erase_of_ne (fun e : z = x => hno (e ▸ hz))).2 ((mem_all h).1 hz).1
    rw [List.length_erase_of_mem hx] at this
    have := List.length_pos_of_mem hx
    omega
  · intro ha
    have h1 := nodup_len (all_nodup h) fun z hz => ((mem_all h).1 hz).1
    have h2 := nodup_len (l := all l) h.nodup fun z hz => (mem_all h).2 ⟨hz, ha z hz⟩
    omega
def ordE (l : List CE) : Int := if formsB l = true then 0 else 130
def ordV (l : List CE) : List CE := if formsB l = true then all l else []

end Go.Sq

/- SEQUENCE, 9: the reference's Order, Check, Insert, Erase. -/
namespace Go.Sq
open Go Go.Am Go.Proofs Go.Seat

theorem ordV_len (l : List CE) : (ordV l).length ≤ l.length := by
  unfold ordV
  split
  · rename_i h
    have ok := (forms_iff.1 h).1
    exact nodup_len (all_nodup ok) fun z hz => ((mem_all ok).1 hz).1
  · exact Nat.zero_le _

def chkE (l : List CE) : Int := if ordE l = 0 ∧ ordV l = l then 0 else 130

def insE (l : List CE) (c : CE) : Int := if chkE l ≠ 0 then chkE l else if c.gn = true then 130 else ordE (l ++ [c])
def insV (l : List CE) (c : CE) : List CE := if chkE l ≠ 0 then [] else if c.gn = true then [] else ordV (l ++ [c])
end Go.Sq

/- SEQUENCE, 10: the reference's Erase. -/
namespace Go.Sq
open Go Go.Am Go.Proofs Go.Seat

def goneAt (l : List CE) (j : Nat) : List CE := l.modify j fun x => { x with gn := true }
theorem goneAt_set {l : List CE} {j : Nat} {x : CE} (h : l[j]? = some x) : goneAt l j = l.set j { x with gn := true } := by
  unfold goneAt
  apply List.ext_getElem?
  intro i
  rw [List.getElem?_modify, List.getElem?_set]
  by_cases e : j = i
  · subst e
    have := (List.getElem?_eq_some_iff.1 h).1
    rw [if_pos rfl, if_pos this, h]
    simp
  · simp [e]
def eraE (l : List CE) (a b c : Int) : Int := if chkE l ≠ 0 then chkE l else match fX (pid a b c) l with
  | some _ => 0
  | none => 130
def eraV (l : List CE) (a b c : Int) : List CE := if chkE l ≠ 0 then [] else match fX (pid a b c) l with
  | some j => goneAt l j
  | none => []
end Go.Sq

/- SEQUENCE, 25: what Order keeps of the cells so far; its maps. -/
namespace Go.Sq
open Go Go.Am Go.Proofs Go.Seat

def OkR (x : CE) : Prop := (InR x.dv ∧ InR x.sq ∧ InR x.at') ∧ InR x.ad ∧ InR x.as' ∧ InR x.aa
def knE (v : List CE) : List (Value × AV) := v.map fun x => (idV x.dv x.sq x.at', bool true)
def tmE (ts : List (Int × Int × Int)) : List (Value × AV) := ts.map fun e => (dotV e.1 e.2.1, int e.2.2)
theorem lits_kn (v : List CE) : lits (knE v) := fun e he => by
  obtain ⟨x, _, rfl⟩ := List.mem_map.1 he
  exact ⟨_, rfl⟩
theorem lits_tm (ts : List (Int × Int × Int)) : lits (tmE ts) := fun e he => by
  obtain ⟨x, _, rfl⟩ := List.mem_map.1 he
  exact ⟨_, rfl⟩
theorem dotV_inj {a b a' b' : Int} (h : dotV a b = dotV a' b') : a = a' ∧ b = b' := by
  simp only [dotV, Value.agg.injEq, Array.mk.injEq, List.cons.injEq, Value.int.injEq, true_and, and_true] at h
  exact h
structure LInv (v : List CE) (fs : List Fe) (ts : List (Int × Int × Int)) : Prop where
  ok : Ok v
  rng : ∀ x ∈ v, OkR x
  famR : FamR fs
  famL : ∀ f ∈ fs, f.l = v.filter (fun x => decide (x.after = f.id)) ∧ f.l ≠ []
  famA : ∀ x ∈ v, ∃ f ∈ fs, f.id = x.after
  ts1 : ∀ e ∈ ts, ∃ x ∈ v, (x.dv, x.sq, x.tm) = e
  ts2 : ∀ x ∈ v, (x.dv, x.sq, x.tm) ∈ ts

theorem kn_keys {v : List CE} (h : ∀ x ∈ v, OkR x) : ∀ e ∈ knE v, ∃ l, keyOf P 31 e.1 = some l := fun e he => by
  obtain ⟨x, hx, rfl⟩ := List.mem_map.1 he
  obtain ⟨⟨h1, h2, h3⟩, _⟩ := h x hx
  exact keyI h1 h2 h3
theorem tm_keys {v : List CE} {ts : List (Int × Int × Int)} (h : ∀ x ∈ v, OkR x) (h1 : ∀ e ∈ ts, ∃ x ∈ v, (x.dv, x.sq, x.tm) = e) : ∀ e ∈ tmE ts, ∃ l, keyOf P 57 e.1 = some l := fun e he => by
  obtain ⟨q, hq, rfl⟩ := List.mem_map.1 he
  obtain ⟨x, hx, rfl⟩ := h1 q hq
  obtain ⟨⟨h1, h2, h3⟩, _⟩ := h x hx
  exact keyD h1 h2
theorem kn_get {v : List CE} (h : ∀ x ∈ v, OkR x) {x : CE} (hx : OkR x) (hm : ∃ y ∈ v, y.id = x.id) : MapGet P 31 (knE v) (idV x.dv x.sq x.at') (bool false) (bool true) true := by
  obtain ⟨y, hy, e⟩ := hm
  obtain ⟨⟨h1, h2, h3⟩, _⟩ := hx
  refine ⟨keyedI, keyI h1 h2 h3, kn_keys h, .inl ⟨rfl, List.mem_map.2 ⟨y, hy, ?_⟩⟩⟩
  simp only [CE.id, Prod.mk.injEq] at e
  rw [e.1, e.2.1, e.2.2]
theorem kn_none {v : List CE} (h : ∀ x ∈ v, OkR x) {x : CE} (hx : OkR x) (hm : ∀ y ∈ v, y.id ≠ x.id) : MapGet P 31 (knE v) (idV x.dv x.sq x.at') (bool false) (bool false) false := by
  obtain ⟨⟨h1, h2, h3⟩, _⟩ := hx
  exact ⟨keyedI, keyI h1 h2 h3, kn_keys h, .inr ⟨rfl, rfl, fun e he hq => by
    obtain ⟨y, hy, rfl⟩ := List.mem_map.1 he
    exact hm y hy (idV_inj hq)⟩⟩
theorem kn_put {v : List CE} (h : ∀ x ∈ v, OkR x) {x : CE} (hx : OkR x) (hm : ∀ y ∈ v, y.id ≠ x.id) : MapPut P 31 (knE v) (idV x.dv x.sq x.at') (bool true) (knE (v ++ [x])) := by
  obtain ⟨⟨h1, h2, h3⟩, _⟩ := hx
  exact ⟨keyedI, keyI h1 h2 h3, kn_keys h, .inr ⟨fun e he hq => by
    obtain ⟨y, hy, rfl⟩ := List.mem_map.1 he
    exact hm y hy (idV_inj hq), by simp [knE]⟩⟩
theorem tm_get {v : List CE} {ts : List (Int × Int × Int)} (h : ∀ x ∈ v, OkR x) (h1 : ∀ e ∈ ts, ∃ x ∈ v, (x.dv, x.sq, x.tm) = e) {x : CE} (hx : OkR x) {t : Int} (hm : (x.dv, x.sq, t) ∈ ts) : MapGet P 57 (tmE ts) (dotV x.dv x.sq) (int 0) (int t) true :=
  ⟨keyedD, keyD hx.1.1 hx.1.2.1, tm_keys h h1, .inl ⟨rfl, List.mem_map.2 ⟨_, hm, rfl⟩⟩⟩
theorem tm_none {v : List CE} {ts : List (Int × Int × Int)} (h : ∀ x ∈ v, OkR x) (h1 : ∀ e ∈ ts, ∃ x ∈ v, (x.dv, x.sq, x.tm) = e) {x : CE} (hx : OkR x) (hm : ∀ t, (x.dv, x.sq, t) ∉ ts) : MapGet P 57 (tmE ts) (dotV x.dv x.sq) (int 0) (int 0) false :=
  ⟨keyedD, keyD hx.1.1 hx.1.2.1, tm_keys h h1, .inr ⟨rfl, rfl, fun e he hq => by
    obtain ⟨q, hq', rfl⟩ := List.mem_map.1 he
    obtain ⟨q1, q2⟩ := dotV_inj hq
    exact hm q.2.2 (by rw [← q1, ← q2]; exact hq')⟩⟩
theorem tm_put {v : List CE} {ts : List (Int × Int × Int)} (h : ∀ x ∈ v, OkR x) (h1 : ∀ e ∈ ts, ∃ x ∈ v, (x.dv, x.sq, x.tm) = e) {x : CE} (hx : OkR x) (hm : ∀ t, (x.dv, x.sq, t) ∈ ts → t = x.tm) :
    ∃ ts', MapPut P 57 (tmE ts) (dotV x.dv x.sq) (int x.tm) (tmE ts') ∧ (∀ e ∈ ts', e ∈ ts ∨ e = (x.dv, x.sq, x.tm)) ∧ (∀ e ∈ ts, e ∈ ts') ∧ (x.dv, x.sq, x.tm) ∈ ts' := by
  by_cases hin : (x.dv, x.sq, x.tm) ∈ ts
  · obtain ⟨us, bs, e⟩ := List.append_of_mem hin
    refine ⟨ts, ⟨keyedD, keyD hx.1.1 hx.1.2.1, tm_keys h h1, .inl ⟨tmE us, tmE bs, int x.tm, ?_, ?_⟩⟩, fun e he => .inl he, fun e he => he, hin⟩
    · rw [e]; simp [tmE]
    · rw [e]; simp [tmE]
  · refine ⟨ts ++ [(x.dv, x.sq, x.tm)], ⟨keyedD, keyD hx.1.1 hx.1.2.1, tm_keys h h1, .inr ⟨fun e he hq => ?_, by simp [tmE]⟩⟩, fun e he => by simpa using he, fun e he => List.mem_append_left _ he, by simp⟩
    obtain ⟨q, hq', rfl⟩ := List.mem_map.1 he
    obtain ⟨q1, q2⟩ := dotV_inj hq
    have := hm q.2.2 (by rw [← q1, ← q2]; exact hq')
    exact hin (by rw [← this, ← q1, ← q2]; exact hq')
theorem fam_ent {us bs : List Fe} {f : Fe} (h : FamR (us ++ f :: bs)) (y : AV) : MapEnt P 31 (esO us f y bs) (idV f.a f.b f.c) nilS y us.length (esO us f y bs) := by
  have hf : f ∈ us ++ f :: bs := by simp
  obtain ⟨h1, h2, h3⟩ := h.rng f hf
  refine ⟨keyedI, keyI h1 h2 h3, fun e he => ?_, .inl ⟨esF us, esF bs, rfl, (esF_len us).symm, rfl⟩⟩
  have : e.1 ∈ (esO us f y bs).map (·.1) := List.mem_map.2 ⟨e, he, rfl⟩
  rw [esO_keys us f y (.lit f.v) bs, esO_lit] at this
  obtain ⟨e', he', hq⟩ := List.mem_map.1 this
  rw [← hq]
  exact fam_keys h e' he'
theorem fam_entn {fs : List Fe} (h : FamR fs) {a b c : Int} (ha : InR a) (hb : InR b) (hc : InR c) (hn : ∀ f ∈ fs, f.id ≠ (a, b, c)) (v : Value) (blk : Nat) (l : List CE) : MapEnt P 31 (esF fs) (idV a b c) nilS nilS fs.length (esO fs ⟨a, b, c, v, blk, l⟩ nilS []) :=
  ⟨keyedI, keyI ha hb hc, fam_keys h, .inr ⟨fun e he => by
    obtain ⟨f, hf, rfl⟩ := List.mem_map.1 he
    exact fun hq => hn f hf (idV_inj hq), rfl, (esF_len fs).symm, by simp [esO, esF, Fe.key]⟩⟩

/-! One cell more -/
theorem ok_snoc {v : List CE} {x : CE} (h : Ok v) (hv : validB x = true) (hi : ∀ y ∈ v, y.id ≠ x.id) (ht : ∀ y ∈ v, y.dv = x.dv → y.sq = x.sq → y.tm = x.tm) : Ok (v ++ [x]) where
  valid y hy := by
    rcases List.mem_append.1 hy with h' | h'
    · exact h.valid y h'
    · rw [List.mem_singleton.1 h']; exact hv
  apart := List.pairwise_append.2 ⟨h.apart, by simp, fun y hy z hz => by
    rw [List.mem_singleton.1 hz]
    have h1 := hi y hy
    have h2 := ht y hy
    simp only [CE.id, ne_eq, Prod.mk.injEq] at h1
    unfold clash
    grind⟩
theorem ok_tm {v : List CE} (h : Ok v) {x y : CE} (hx : x ∈ v) (hy : y ∈ v) (h1 : x.dv = y.dv) (h2 : x.sq = y.sq) : x.tm = y.tm := by
  have key : ∀ {a b : CE}, clash b a = false → a.dv = b.dv → a.sq = b.sq → a.tm = b.tm := fun {a b} hc e1 e2 => by
    unfold clash at hc
    grind
  obtain ⟨i, hi, rfl⟩ := List.getElem_of_mem hx
  obtain ⟨j, hj, rfl⟩ := List.getElem_of_mem hy
  rcases Nat.lt_trichotomy i j with h' | h' | h'
  · exact key (List.pairwise_iff_getElem.1 h.apart i j hi hj h') h1 h2
  · subst h'; rfl
  · exact (key (List.pairwise_iff_getElem.1 h.apart j i hj hi h') h1.symm h2.symm).symm
theorem valid_tm {x : CE} (h : validB x = true) : x.tm ≠ 0 := fun e => by
  simp [validB, e] at h
theorem fam_more {v : List CE} {us bs : List Fe} {f : Fe} {ts ts' : List (Int × Int × Int)} {x : CE} (h : LInv v (us ++ f :: bs) ts) (hx : OkR x) (hok : Ok (v ++ [x])) (he : f.id = x.after) (w : Value) (blk : Nat) (h1 : ∀ e ∈ ts', e ∈ ts ∨ e = (x.dv, x.sq, x.tm)) (h2 : ∀ e ∈ ts, e ∈ ts') (h3 : (x.dv, x.sq, x.tm) ∈ ts') :
    LInv (v ++ [x]) (us ++ ⟨f.a, f.b, f.c, w, blk, f.l ++ [x]⟩ :: bs) ts' := by
  have hid : (⟨f.a, f.b, f.c, w, blk, f.l ++ [x]⟩ : Fe).id = f.id := rfl
  have ids : (us ++ (⟨f.a, f.b, f.c, w, blk, f.l ++ [x]⟩ : Fe) :: bs).map Fe.id = (us ++ f :: bs).map Fe.id := by simp [Fe.id]
  have mem : ∀ q, q ∈ us ++ (⟨f.a, f.b, f.c, w, blk, f.l ++ [x]⟩ : Fe) :: bs → q = ⟨f.a, f.b, f.c, w, blk, f.l ++ [x]⟩ ∨ (q ∈ us ++ f :: bs ∧ q.id ≠ f.id) := fun q hq => by
    have hnd := h.famR.nodup
    rw [List.map_append, List.map_cons] at hnd
    obtain ⟨n1, n2, n3⟩ := List.nodup_append.1 hnd
    obtain ⟨n4, n5⟩ := List.nodup_cons.1 n2
    rcases List.mem_append.1 hq with h' | h'
    · exact .inr ⟨List.mem_append_left _ h', fun e => n3 q.id (List.mem_map.2 ⟨q, h', rfl⟩) f.id (by simp) e⟩
    · rcases List.mem_cons.1 h' with h' | h'
      · exact .inl h'
      · exact .inr ⟨List.mem_append_right _ (List.mem_cons_of_mem _ h'), fun e => n4 (by rw [← e]; exact List.mem_map.2 ⟨q, h', rfl⟩)⟩
  have hf : f ∈ us ++ f :: bs := by simp
  refine ⟨hok, fun y hy => ?_, ⟨by rw [ids]; exact h.famR.nodup, fun q hq => ?_⟩, fun q hq => ?_, fun y hy => ?_, fun e he' => ?_, fun y hy => ?_⟩
  · rcases List.mem_append.1 hy with h' | h'
    · exact h.rng y h'
    · rw [List.mem_singleton.1 h']; exact hx
  · rcases mem q hq with rfl | ⟨h', _⟩
    · exact h.famR.rng f hf
    · exact h.famR.rng q h'
  · rcases mem q hq with rfl | ⟨h', hne⟩
    · refine ⟨?_, by simp⟩
      show f.l ++ [x] = _
      rw [List.filter_append, hid, ← (h.famL f hf).1]
      simp [he]
    · rw [List.filter_append]
      have : [x].filter (fun x => decide (x.after = q.id)) = [] := by
        have : ¬ x.after = q.id := fun e => hne (by rw [← e, he])
        simp [this]
      rw [this, List.append_nil]
      exact h.famL q h'
  · rcases List.mem_append.1 hy with h' | h'
    · obtain ⟨q, hq, e⟩ := h.famA y h'
      rcases List.mem_append.1 hq with h'' | h''
      · exact ⟨q, List.mem_append_left _ h'', e⟩
      · rcases List.mem_cons.1 h'' with rfl | h''
        · exact ⟨_, List.mem_append_right _ List.mem_cons_self, hid.trans e⟩
        · exact ⟨q, List.mem_append_right _ (List.mem_cons_of_mem _ h''), e⟩
    · rw [List.mem_singleton.1 h']
      exact ⟨_, List.mem_append_right _ List.mem_cons_self, hid.trans he⟩
  · rcases h1 e he' with h' | h'
    · obtain ⟨y, hy, e'⟩ := h.ts1 e h'
      exact ⟨y, List.mem_append_left _ hy, e'⟩
    · exact ⟨x, by simp, h'.symm⟩
  · rcases List.mem_append.1 hy with h' | h'
    · exact h2 _ (h.ts2 y h')
    · rw [List.mem_singleton.1 h']; exact h3
theorem fam_new {v : List CE} {fs : List Fe} {ts ts' : List (Int × Int × Int)} {x : CE} (h : LInv v fs ts) (hx : OkR x) (hok : Ok (v ++ [x])) (hn : ∀ f ∈ fs, f.id ≠ x.after) (w : Value) (blk : Nat) (h1 : ∀ e ∈ ts', e ∈ ts ∨ e = (x.dv, x.sq, x.tm)) (h2 : ∀ e ∈ ts, e ∈ ts') (h3 : (x.dv, x.sq, x.tm) ∈ ts') :
    LInv (v ++ [x]) (fs ++ ⟨x.ad, x.as', x.aa, w, blk, [x]⟩ :: []) ts' := by
  have hid : (⟨x.ad, x.as', x.aa, w, blk, [x]⟩ : Fe).id = x.after := rfl
  refine ⟨hok, fun y hy => ?_, ⟨?_, fun q hq => ?_⟩, fun q hq => ?_, fun y hy => ?_, fun e he' => ?_, fun y hy => ?_⟩
  · rcases List.mem_append.1 hy with h' | h'
    · exact h.rng y h'
    · rw [List.mem_singleton.1 h']; exact hx
  · rw [List.map_append]
    refine List.nodup_append.2 ⟨h.famR.nodup, by simp, fun z hz z' hz' e => ?_⟩
    obtain ⟨f, hf, rfl⟩ := List.mem_map.1 hz
    rw [List.map_cons, List.map_nil, List.mem_singleton] at hz'
    exact hn f hf (e.trans hz')
  · rcases List.mem_append.1 hq with h' | h'
    · exact h.famR.rng q h'
    · rw [List.mem_singleton.1 h']; exact hx.2
  · rcases List.mem_append.1 hq with h' | h'
    · rw [List.filter_append]
      have : [x].filter (fun x => decide (x.after = q.id)) = [] := by
        have : ¬ x.after = q.id := fun e => hn q h' e.symm
        simp [this]
      rw [this, List.append_nil]
      exact h.famL q h'
    · rw [List.mem_singleton.1 h']
      refine ⟨?_, by simp⟩
      show [x] = _
      rw [List.filter_append, hid]
      have : v.filter (fun y => decide (y.after = x.after)) = [] := by
        rw [List.filter_eq_nil_iff]
        intro y hy
        obtain ⟨f, hf, e⟩ := h.famA y hy
        simp only [decide_eq_true_eq]
        exact fun e' => hn f hf (e.trans e')
      rw [this]
      simp
  · rcases List.mem_append.1 hy with h' | h'
    · obtain ⟨q, hq, e⟩ := h.famA y h'
      exact ⟨q, List.mem_append_left _ hq, e⟩
    · rw [List.mem_singleton.1 h']
      exact ⟨_, List.mem_append_right _ List.mem_cons_self, hid⟩
  · rcases h1 e he' with h' | h'
    · obtain ⟨y, hy, e'⟩ := h.ts1 e h'
      exact ⟨y, List.mem_append_left _ hy, e'⟩
    · exact ⟨x, by simp, h'.symm⟩
  · rcases List.mem_append.1 hy with h' | h'
    · exact h2 _ (h.ts2 y h')
    · rw [List.mem_singleton.1 h']; exact h3
theorem LInv.link {v : List CE} {fs : List Fe} {ts : List (Int × Int × Int)} (h : LInv v fs ts) (hv : v.length ≤ 1000000) : Link v fs where
  ids f hf := by rw [(h.famL f hf).1]; exact h.ok.ids.filter _
  mem f hf x := by rw [(h.famL f hf).1, List.mem_filter]; simp
  len f hf := by
    rw [(h.famL f hf).1]
    have := List.length_filter_le (fun x : CE => decide (x.after = f.id)) v
    omega
  all := h.famA
  rng x hx := (h.rng x hx).1
end Go.Sq

/- SEQUENCE, 26: the loop of Order. -/
namespace Go.Sq
open Go Go.Am Go.Proofs Go.Seat

theorem step0 {V0 V V2 : View} {b : Nat} {H H3 : List AObj} (h0 : V0.H = []) (s : Step V0 V) (t : Step (focus V b H) V2) (hb : V0.w.heap.size ≤ b) (hH : ∀ i, i < H.length → i = 7 ∨ i < V.H.length) (h3 : H3.length ≤ V2.H.length) :
    Step V0 { V2 with H := H3 } ∧ ∀ i, i < V2.H.length → V0.w.heap.size ≤ V2.ρ i := by
  have n0 : ∀ i, ¬ i < V0.H.length := fun i h => by rw [h0] at h; exact absurd h (by simp)
  have f1 : ∀ i, i < V.H.length → V0.w.heap.size ≤ V.ρ i := fun i hi => (s.fresh i hi).resolve_left fun h => n0 i h.1
  have f2 : ∀ i, i < H.length → V0.w.heap.size ≤ (focus V b H).ρ i := fun i hi => by
    show _ ≤ if i = 7 then b else V.ρ i
    split
    · exact hb
    · rename_i hne
      exact f1 i ((hH i hi).resolve_left hne)
  have f3 : ∀ i, i < V2.H.length → V0.w.heap.size ≤ V2.ρ i := fun i hi => by
    rcases t.fresh i hi with ⟨h1, h2⟩ | h1
    · rw [h2]; exact f2 i h1
    · exact Nat.le_trans s.size h1
  refine ⟨⟨t.os.trans s.os, t.tape.trans s.tape, t.output.trans s.output, Nat.le_trans s.size t.size, Nat.le_trans s.drawn t.drawn, fun c hc _ => ?_, fun c hc hM => ?_, by rw [h0]; exact Nat.zero_le _, fun i hi => .inr (f3 i (Nat.lt_of_lt_of_le hi h3)), fun i hi => absurd hi (n0 i)⟩, f3⟩
  · have k1 := s.keep c hc fun i hi => absurd hi (n0 i)
    have k2 := t.keep c (Nat.lt_of_lt_of_le hc s.size) fun i hi e => by
      have := f2 i hi
      omega
    exact ⟨k2.1.trans k1.1, k2.2.trans k1.2⟩
  · have k1 := s.data c hc hM
    have k2 := t.data c (Nat.lt_of_lt_of_le hc s.size) k1.2
    exact ⟨k2.1.trans k1.1, k2.2⟩
theorem step0c {V0 V2 : View} {H3 : List AObj} (h0 : V0.H = []) (t : Step V0 V2) (h3 : H3.length ≤ V2.H.length) : Step V0 { V2 with H := H3 } ∧ ∀ i, i < V2.H.length → V0.w.heap.size ≤ V2.ρ i := by
  have n0 : ∀ i, ¬ i < V0.H.length := fun i h => by rw [h0] at h; exact absurd h (by simp)
  have f3 : ∀ i, i < V2.H.length → V0.w.heap.size ≤ V2.ρ i := fun i hi => (t.fresh i hi).resolve_left fun h => n0 i h.1
  exact ⟨⟨t.os, t.tape, t.output, t.size, t.drawn, t.keep, t.data, by rw [h0]; exact Nat.zero_le _, fun i hi => .inr (f3 i (Nat.lt_of_lt_of_le hi h3)), fun i hi => absurd hi (n0 i)⟩, f3⟩

def badE (cs : List CE) (k : Nat) : List AV := (qE cs k [(8, .ptr 5 0), (9, .ptr 6 0), (49, bool true)]).set 3 (int 130)
theorem b9r (es kn tm : List (Value × AV)) (cs : List CE) (k : Nat) (x : CE) : runC P G none 0 q9 ⟨qE cs k [(8, .ptr 5 0), (9, .ptr 6 0), (49, bool true)], HO es kn tm ++ [.box (enc x), .box (dt x)], []⟩ (orcsOf [kt (Eq.refl true)]) = some (.ret, ⟨badE cs k, HO es kn tm ++ [.box (enc x), .box (dt x)], []⟩, [], propsOf [kt (Eq.refl true)]) := by kernel_rfl
theorem qE_ids (cs : List CE) (k : Nat) : AV.idsLtL 5 (qE cs k []) = true := by kernel_rfl
theorem qE8_ids (cs : List CE) (k : Nat) : AV.idsLtL 7 (qE cs k [(8, .ptr 5 0)]) = true := by kernel_rfl

theorem q11_sem {V0 V : View} {a : Act} {cs v : List CE} {k : Nat} {fs : List Fe} {ts ts' : List (Int × Int × Int)} {kn tm : List (Value × AV)} {x : CE} (h0 : V0.H = []) (hs : Step V0 V) (hG : HeapRep G V) (hok : StOk V ⟨qE cs k [(8, .ptr 5 0)], HO (esF fs) kn tm ++ [.box (enc x), .box (dt x)], []⟩ a)
    (hF : FamOk V ALL fs) (hb : ∀ f ∈ fs, V0.w.heap.size ≤ f.blk) (hI : LInv v fs ts) (hv : v.length ≤ 1000000) (hx : OkR x) (hokx : Ok (v ++ [x])) (hkn : lits kn) (htm : lits tm) (h1 : ∀ e ∈ ts', e ∈ ts ∨ e = (x.dv, x.sq, x.tm)) (h2 : ∀ e ∈ ts, e ∈ ts') (h3 : (x.dv, x.sq, x.tm) ∈ ts') {Q : Exit → Act → World → Prop}
    (next : ∀ V' a' fs', Step V0 V' → HeapRep G V' → StOk V' ⟨qE cs k [], HO (esF fs') kn tm, []⟩ a' → FamOk V' ALL fs' → (∀ f ∈ fs', V0.w.heap.size ≤ f.blk) → LInv (v ++ [x]) fs' ts' → Q .normal a' V'.w) : q11.wpIn (fz none) 0 P (Exit.then (fun a w => Q .normal a w) Q) a V.w := by
  have nod : ∀ {V : View} {s : St} {a : Act}, StOk V s a → s.defs = [] → a.defers = [] := fun {V s a} k e => by
    have := k.defs
    rw [e] at this
    cases hdd : a.defers with
    | nil => rfl
    | cons d l => rw [hdd] at this; cases this
  have hH : V.H = HO (esF fs) kn tm ++ [.box (enc x), .box (dt x)] := hok.H
  have h7 : V.H.length = 7 := by rw [hH]; rfl
  by_cases hfd : ∃ f ∈ fs, f.id = x.after
  · obtain ⟨f, hf, hfi⟩ := hfd
    obtain ⟨us, bs, rfl⟩ := List.append_of_mem hf
    have hkey : idV x.ad x.as' x.aa = idV f.a f.b f.c := by
      have : (f.a, f.b, f.c) = (x.ad, x.as', x.aa) := hfi
      simp only [Prod.mk.injEq] at this
      rw [this.1, this.2.1, this.2.2]
    have gf := focus_heap hG hH hF hkn htm
    have al := focus_alter (y := .own 7 0 0 f.l.length) (l := f.l) (g := 0) (b := f.blk) hH
    have hfl := (hI.famL f hf).1
    have hlen : f.l.length ≤ 1000000 := by
      rw [hfl]
      have := List.length_filter_le (fun x : CE => decide (x.after = f.id)) v
      omega
    have he := fam_ent hI.famR (.own 7 0 0 f.l.length)
    rw [← hkey] at he
    refine b11b (esO us f (.own 7 0 0 f.l.length) bs) kn tm cs k us.length f.l.length x (encs f.l) (esO us f (.own 7 0 0 f.l.length) bs) he (encs_length f.l).symm (by omega) (by rw [esO_len]; omega)
      (focus V f.blk (HF (esO us f (.own 7 0 0 f.l.length) bs) kn tm (.box (enc x)) (.box (dt x)) 0 f.l)) (focus V f.blk (HF (esO us f (.own 7 0 0 f.l.length) bs) kn tm (.box (enc x)) (.box (dt x)) 0 f.l)) a _ _ rfl (Step.refl _) gf
      ⟨EnvOk.alter al hok.env (qE8_ids cs k), rfl, by rw [nod hok rfl]; exact .nil⟩ fun V2 a2 s2 g2 k2 => ?_
    have hH2 : V2.H = HF (esO us f (.own 7 1 0 (f.l ++ [x]).length) bs) kn tm (.box (enc x)) (.box (dt x)) 1 (f.l ++ [x]) := by
      rw [k2.H]
      show HO (setE (esO us f (.own 7 0 0 f.l.length) bs) us.length (.own 7 1 0 (f.l.length + 1))) kn tm ++ [.box (enc x), .box (dt x), .arr 1 9 false (encs f.l ++ [enc x])] = _
      rw [setE_esO, show f.l.length + 1 = (f.l ++ [x]).length by simp, encs_one, encs_append]
      rfl
    have hFu : FamOk (focus V f.blk (HF (esO us f (.own 7 0 0 f.l.length) bs) kn tm (.box (enc x)) (.box (dt x)) 0 f.l)) ALL (us ++ bs) := by
      have hm : ∀ q ∈ us ++ bs, q ∈ us ++ f :: bs := fun q hq => by
        rcases List.mem_append.1 hq with h | h
        · exact List.mem_append_left _ h
        · exact List.mem_append_right _ (List.mem_cons_of_mem _ h)
      have hnd := hI.famR.nodup
      rw [List.map_append, List.map_cons] at hnd
      obtain ⟨n1, n2, n3⟩ := List.nodup_append.1 hnd
      obtain ⟨n4, n5⟩ := List.nodup_cons.1 n2
      have hne : ∀ q ∈ us ++ bs, q.id ≠ f.id := fun q hq e => by
        rcases List.mem_append.1 hq with h | h
        · exact n3 q.id (List.mem_map.2 ⟨q, h, rfl⟩) f.id (by simp) e
        · exact n4 (by rw [← e]; exact List.mem_map.2 ⟨q, h, rfl⟩)
      refine ⟨fun q hq _ => hF.kid q (hm q hq) trivial, fun q hq _ => hF.mt q (hm q hq) trivial, fun q hq _ i hi => ?_, fun q hq r hr _ _ e => hF.apart q (hm q hq) r (hm r hr) trivial trivial e⟩
      show (if i = 7 then f.blk else V.ρ i) ≠ q.blk
      have hi8 : i < 8 := hi
      split
      · exact fun e => hne q hq (hF.apart f hf q (hm q hq) trivial trivial e).symm
      · exact hF.off q (hm q hq) trivial i (by omega)
    obtain ⟨w, u1, u2, u3⟩ := unfocus g2 hH2 (hFu.step s2) hkn htm (by simp)
    obtain ⟨st, fr⟩ := step0 (H3 := HO (esF (us ++ ⟨f.a, f.b, f.c, w, V2.ρ 7, f.l ++ [x]⟩ :: bs)) kn tm) h0 hs s2 (hb f hf) (fun i hi => by
      have : i < 8 := hi
      omega) (by rw [hH2]; show 5 ≤ 8; decide)
    refine next { V2 with H := HO (esF (us ++ ⟨f.a, f.b, f.c, w, V2.ρ 7, f.l ++ [x]⟩ :: bs)) kn tm } a2 _ st u1 ⟨EnvOk.alter u3 k2.env (qE_ids cs k), rfl, by rw [nod k2 rfl]; exact .nil⟩ u2 (fun q hq => ?_) (fam_more hI hx hokx hfi w _ h1 h2 h3)
    rcases List.mem_append.1 hq with h | h
    · exact hb q (List.mem_append_left _ h)
    · rcases List.mem_cons.1 h with rfl | h
      · exact fr 7 (by rw [hH2]; show 7 < 8; decide)
      · exact hb q (List.mem_append_right _ (List.mem_cons_of_mem _ h))
  · have hno : ∀ f ∈ fs, f.id ≠ x.after := fun f hf e => hfd ⟨f, hf, e⟩
    have he := fam_entn hI.famR hx.2.1 hx.2.2.1 hx.2.2.2 hno (.slice none 0 0) 0 []
    refine b11a (esF fs) kn tm cs k fs.length x (esO fs ⟨x.ad, x.as', x.aa, .slice none 0 0, 0, []⟩ nilS []) he (by rw [esO_len]; omega) V V a _ _ h7 (Step.refl _) hG hok fun V2 a2 s2 g2 k2 => ?_
    have hH2 : V2.H = HF (esO fs ⟨x.ad, x.as', x.aa, .slice none 0 0, 0, []⟩ (.own 7 0 0 [x].length) []) kn tm (.box (enc x)) (.box (dt x)) 0 [x] := by
      rw [k2.H]
      show HO (setE (esO fs ⟨x.ad, x.as', x.aa, .slice none 0 0, 0, []⟩ nilS []) fs.length (.own 7 0 0 1)) kn tm ++ [.box (enc x), .box (dt x), .arr 0 9 false [enc x]] = _
      rw [setE_esO]
      rfl
    obtain ⟨w, u1, u2, u3⟩ := unfocus (us := fs) (bs := []) g2 hH2 (by rw [List.append_nil]; exact hF.step s2) hkn htm (by simp)
    obtain ⟨st, fr⟩ := step0c (H3 := HO (esF (fs ++ ⟨x.ad, x.as', x.aa, w, V2.ρ 7, [x]⟩ :: [])) kn tm) h0 (hs.trans s2) (by rw [hH2]; show 5 ≤ 8; decide)
    refine next { V2 with H := HO (esF (fs ++ ⟨x.ad, x.as', x.aa, w, V2.ρ 7, [x]⟩ :: [])) kn tm } a2 _ st u1 ⟨EnvOk.alter u3 k2.env (qE_ids cs k), rfl, by rw [nod k2 rfl]; exact .nil⟩ u2 (fun q hq => ?_) (fam_new hI hx hokx hno w _ h1 h2 h3)
    rcases List.mem_append.1 hq with h | h
    · exact hb q h
    · rw [List.mem_singleton.1 h]
      exact fr 7 (by rw [hH2]; show 7 < 8; decide)
end Go.Sq

/- SEQUENCE, 27: the loop of Order, whole. -/
namespace Go.Sq
open Go Go.Am Go.Proofs Go.Seat

theorem ord_loop {V0 : View} (h0 : V0.H = []) {cs : List CE} (hcs : cs.length ≤ 1000000) (hR : ∀ x ∈ cs, OkR x) {Q : Exit → Act → World → Prop}
    (bad : ¬ Ok cs → ∀ es kn tm k x a' w', Am.Ends G V0 .ret ⟨badE cs k, HO es kn tm ++ [.box (enc x), .box (dt x)], []⟩ .ret a' w' → Q .ret a' w')
    (good : Ok cs → ∀ V' a' fs' ts', Step V0 V' → HeapRep G V' → StOk V' ⟨qE cs cs.length [], HO (esF fs') (knE cs) (tmE ts'), []⟩ a' → FamOk V' ALL fs' → (∀ f ∈ fs', V0.w.heap.size ≤ f.blk) → LInv cs fs' ts' → Q (.exit 0) a' V'.w) :
    ∀ (d k : Nat), cs.length - k = d → k ≤ cs.length → ∀ (V : View) (a : Act) (fs : List Fe) (ts : List (Int × Int × Int)), Step V0 V → HeapRep G V → StOk V ⟨qE cs k [], HO (esF fs) (knE (cs.take k)) (tmE ts), []⟩ a → FamOk V ALL fs → (∀ f ∈ fs, V0.w.heap.size ≤ f.blk) → LInv (cs.take k) fs ts →
    LoopIn (fz none) 0 P L13 Q a V.w := by
  intro d
  induction d with
  | zero =>
    intro k hd hk V a fs ts hs hG hok hF hb hI
    obtain rfl : k = cs.length := by omega
    have h5 : V.H.length = 5 := by rw [hok.H]; rfl
    refine LoopIn.mono (bE (esF fs) (knE (cs.take cs.length)) (tmE ts) cs cs.length (Nat.le_refl _) V V a h5 (Step.refl V) hG hok) ?_
    rintro e a' w' ⟨V', rfl, k1, k2, k3, k4⟩
    cases e <;> first | exact k4.elim | skip
    rename_i i
    obtain rfl : i = 0 := k4
    rw [List.take_length] at k3 hI
    exact good hI.ok V' a' fs ts (hs.trans k1) k2 k3 (hF.step k1) hb hI
  | succ d ih =>
    intro k hd hk V a fs ts hs hG hok hF hb hI
    have hlt : k < cs.length := by omega
    have hx : cs[k]? = some cs[k] := List.getElem?_eq_getElem hlt
    have hxm : cs[k] ∈ cs := List.getElem_mem hlt
    have htk : cs.take (k + 1) = cs.take k ++ [cs[k]] := (List.take_append_getElem hlt).symm
    have hall : cs.take k ++ (cs[k] :: cs.drop (k + 1)) = cs := by rw [← List.drop_eq_getElem_cons hlt, List.take_append_drop]
    generalize hxe : cs[k] = x at *
    generalize hve : cs.take k = v at *
    have hvl : v.length ≤ 1000000 := by rw [← hve, List.length_take]; omega
    have hxR := hR x hxm
    have h5 : V.H.length = 5 := by rw [hok.H]; rfl
    refine LoopIn.next ?_
    show L13.wpIn (fz none) 0 P _ a V.w
    rw [loop13]
    refine PieceC.seq (b4 (esF fs) (knE v) (tmE ts) cs k hlt) h5 (Step.refl V) hG hok fun V1 a1 s1 g1 k1 => ?_
    refine PieceC.seq (bI (esF fs) (knE v) (tmE ts) cs k) h5 s1 g1 k1 fun V2 a2 s2 g2 k2 => ?_
    refine Go.wpIn_seq (Go.wpIn_block ?_)
    refine PieceC.seq (b5 (esF fs) (knE v) (tmE ts) cs k x ⟨by omega, by rw [Int.toNat_natCast, encs_get?, hx]; rfl⟩) h5 s2 g2 k2 fun V3 a3 s3 g3 k3 => ?_
    refine PieceC.seq (b6 (esF fs) (knE v) (tmE ts) cs k x) h5 s3 g3 k3 fun V4 a4 s4 g4 k4 => ?_
    refine Go.wpIn_seq ?_
    obtain ⟨t, ok, hget, hspec⟩ : ∃ t ok, MapGet P 57 (tmE ts) (dotV x.dv x.sq) (int 0) (int t) ok ∧ ((t ≠ 0 ∧ (x.dv, x.sq, t) ∈ ts) ∨ (t = 0 ∧ ∀ t, (x.dv, x.sq, t) ∉ ts)) := by
      by_cases h : ∃ t, (x.dv, x.sq, t) ∈ ts
      · obtain ⟨t, ht⟩ := h
        refine ⟨t, true, tm_get hI.rng hI.ts1 hxR ht, .inl ⟨?_, ht⟩⟩
        obtain ⟨z, hz, e⟩ := hI.ts1 _ ht
        have := valid_tm (hI.ok.valid z hz)
        simp only [Prod.mk.injEq] at e
        rw [← e.2.2]; exact this
      · exact ⟨0, false, tm_none hI.rng hI.ts1 hxR fun t ht => h ⟨t, ht⟩, .inr ⟨rfl, fun t ht => h ⟨t, ht⟩⟩⟩
    refine PieceC.seq (b7 (esF fs) (knE v) (tmE ts) cs k x t ok hget) h5 s4 g4 k4 fun V5 a5 s5 g5 k5 => ?_
    have isbad : ¬ Ok cs → ∀ (V6 : View) (a6 : Act), Step V0 V6 → HeapRep G V6 → StOk V6 ⟨qE cs k [(8, .ptr 5 0), (9, .ptr 6 0), (49, bool true)], HO (esF fs) (knE v) (tmE ts) ++ [.box (enc x), .box (dt x)], []⟩ a6 → ∀ (K : Act → World → Prop) (Q2 : Exit → Act → World → Prop), (∀ a w, Q .ret a w → Q2 .ret a w) → q9.wpIn (fz none) 0 P (Exit.then K Q2) a6 V6.w := by
      intro hno V6 a6 s6 g6 k6 K Q2 hQ
      refine Go.wpIn_mono (runC_sound (r := none) q9 (b9r (esF fs) (knE v) (tmE ts) cs k x) (propsAll _) V0 V6 a6 (by rw [h0]; rfl) s6 g6 k6) ?_
      intro e a' w' hE
      obtain ⟨V', e1, e2, e3, e4, e5⟩ := hE
      cases e <;> first | exact e5.elim | skip
      exact hQ _ _ (bad hno _ _ _ _ _ _ _ ⟨V', e1, e2, e3, e4, e5⟩)
    have isgood : (∀ y ∈ v, y.id ≠ x.id) → validB x = true → (∀ t', (x.dv, x.sq, t') ∈ ts → t' = x.tm) → ∀ (V6 : View) (a6 : Act), Step V V6 → HeapRep G V6 → StOk V6 ⟨qE cs k [(8, .ptr 5 0), (9, .ptr 6 0), (49, bool false)], HO (esF fs) (knE v) (tmE ts) ++ [.box (enc x), .box (dt x)], []⟩ a6 →
        q9.wpIn (fz none) 0 P (Exit.then (fun a w => (Code.seq q10 q11).wpIn (fz none) 0 P (Exit.inBlock 1 (Exit.then (q12.wpIn (fz none) 0 P (Exit.then (LoopIn (fz none) 0 P L13 Q) Q)) (Exit.then (LoopIn (fz none) 0 P L13 Q) Q))) a w) (Exit.inBlock 1 (Exit.then (q12.wpIn (fz none) 0 P (Exit.then (LoopIn (fz none) 0 P L13 Q) Q)) (Exit.then (LoopIn (fz none) 0 P L13 Q) Q)))) a6 V6.w := by
      intro hid hv htm V6 a6 s6 g6 k6
      have hokx : Ok (v ++ [x]) := ok_snoc hI.ok hv hid fun y hy e1 e2 => by
        have := hI.ts2 y hy
        rw [e1, e2] at this
        exact htm _ this
      obtain ⟨ts', m1, m2, m3, m4⟩ := tm_put hI.rng hI.ts1 hxR htm
      refine b9 (esF fs) (knE v) (tmE ts) cs k x V V6 a6 _ _ h5 s6 g6 k6 fun V7 a7 s7 g7 k7 => ?_
      refine PieceC.seq (b10 (esF fs) (knE v) (tmE ts) cs k x (knE (v ++ [x])) (tmE ts') (kn_put hI.rng hxR hid) m1) h5 s7 g7 k7 fun V8 a8 s8 g8 k8 => ?_
      refine Go.wpIn_mono (q11_sem (Q := Exit.inBlock 1 (Exit.then (q12.wpIn (fz none) 0 P (Exit.then (LoopIn (fz none) 0 P L13 Q) Q)) (Exit.then (LoopIn (fz none) 0 P L13 Q) Q))) h0 (hs.trans s8) g8 k8 (hF.step s8) hb hI hvl hxR hokx (lits_kn _) (lits_tm _) m2 m3 m4 fun V9 a9 fs' s9 g9 k9 f9 b9' i9 => ?_) fun e a w h => by cases e <;> exact h
      show q12.wpIn (fz none) 0 P (Exit.then (LoopIn (fz none) 0 P L13 Q) Q) a9 V9.w
      have h59 : V9.H.length = 5 := by rw [k9.H]; rfl
      refine b12 (esF fs') (knE (v ++ [x])) (tmE ts') cs k (by omega) V9 V9 a9 _ _ h59 (Step.refl V9) g9 k9 fun Va aa sa ga ka => ?_
      refine ih (k + 1) (by omega) (by omega) Va aa fs' ts' (s9.trans sa) ga ?_ (f9.step sa) b9' ?_
      · rw [htk]; exact ka
      · rw [htk]; exact i9
    cases hv : validB x with
    | false =>
      refine PieceC.seq (b8a (esF fs) (knE v) (tmE ts) cs k x t (by rw [← hv]; exact valid_c x)) h5 s5 g5 k5 fun V6 a6 s6 g6 k6 => ?_
      exact isbad (fun h => by rw [h.valid x hxm] at hv; cases hv) V6 a6 (hs.trans s6) g6 k6 _ _ fun a w h => h
    | true =>
      have hvc : CallC P G 29 [cel x] [] (.ret (bool true)) [] := by rw [← hv]; exact valid_c x
      by_cases hid : ∃ y ∈ v, y.id = x.id
      · refine PieceC.seq (b8b (esF fs) (knE v) (tmE ts) cs k x t true hvc (kn_get hI.rng hxR hid)) h5 s5 g5 k5 fun V6 a6 s6 g6 k6 => ?_
        refine isbad (fun h => ?_) V6 a6 (hs.trans s6) g6 k6 _ _ fun a w h => h
        obtain ⟨y, hy, e⟩ := hid
        rw [← hall] at h
        exact clash_id ((List.pairwise_append.1 h.apart).2.2 y hy x (by simp)) e
      · have hid' : ∀ y ∈ v, y.id ≠ x.id := fun y hy e => hid ⟨y, hy, e⟩
        rcases hspec with ⟨ht0, htin⟩ | ⟨rfl, hnone⟩
        · obtain ⟨z, hz, ez⟩ := hI.ts1 _ htin
          simp only [Prod.mk.injEq] at ez
          by_cases hte : t = x.tm
          · refine PieceC.seq (b8d (esF fs) (knE v) (tmE ts) cs k x t false hvc (kn_none hI.rng hxR hid') (by simpa using ht0)) h5 s5 g5 k5 fun V6 a6 s6 g6 k6 => ?_
            rw [show (t != x.tm) = false by simp [hte]] at k6
            refine isgood hid' hv (fun t' ht' => ?_) V6 a6 s6 g6 k6
            obtain ⟨y, hy, ey⟩ := hI.ts1 _ ht'
            simp only [Prod.mk.injEq] at ey
            have := ok_tm hI.ok hy hz (ey.1.trans ez.1.symm) (ey.2.1.trans ez.2.1.symm)
            rw [← hte, ← ey.2.2, ← ez.2.2]; exact this
          · refine PieceC.seq (b8d (esF fs) (knE v) (tmE ts) cs k x t false hvc (kn_none hI.rng hxR hid') (by simpa using ht0)) h5 s5 g5 k5 fun V6 a6 s6 g6 k6 => ?_
            rw [show (t != x.tm) = true by simpa using hte] at k6
            refine isbad (fun h => ?_) V6 a6 (hs.trans s6) g6 k6 _ _ fun a w h => h
            have := ok_tm h (x := z) (y := x) (by rw [← hall]; exact List.mem_append_left _ hz) hxm ez.1 ez.2.1
            exact hte (by rw [← ez.2.2]; exact this)
        · refine PieceC.seq (b8c (esF fs) (knE v) (tmE ts) cs k x 0 false hvc (kn_none hI.rng hxR hid') rfl) h5 s5 g5 k5 fun V6 a6 s6 g6 k6 => ?_
          exact isgood hid' hv (fun t' ht' => absurd ht' (hnone t')) V6 a6 s6 g6 k6
end Go.Sq

/- SEQUENCE, 28: Order. -/
namespace Go.Sq
open Go Go.Am Go.Proofs Go.Seat

noncomputable def fn13 : Func := (P.funcs[13]?).getD default
noncomputable def ops15 : Array Oper := opsOf a15
noncomputable def op15 : Oper := ops15.toList.getD 2 default
theorem reg15 : a15 = .region 15 ops15 false := by kernel_rfl
section
variable (cs : List CE) (es kn tm : List (Value × AV)) (g n : Nat) (xs : List (List AV))
theorem o0 : PieceC P G none 0 a0 ⟨[ces cs] ++ List.replicate 76 (.lit undef), [], []⟩ ⟨slots 77 [(0, ces cs), (2, .ptr 0 0)], [.box [nilS]], []⟩ := piece_of [] (others 77 [0, 2]) 1 (by kernel_rfl)
theorem o1 : PieceC P G none 0 a1 ⟨slots 77 [(0, ces cs), (2, .ptr 0 0)], [.box [nilS]], []⟩ ⟨slots 77 [(0, ces cs), (2, .ptr 0 0), (4, .ptr 2 0)], [.box [nilS], .map [], .box [.mp 1]], []⟩ := piece_of [] (others 77 [0, 2, 4]) 3 (by kernel_rfl)
theorem o2 : PieceC P G none 0 a2 ⟨slots 77 [(0, ces cs), (2, .ptr 0 0), (4, .ptr 2 0)], [.box [nilS], .map [], .box [.mp 1]], []⟩ ⟨slots 77 [(0, ces cs), (2, .ptr 0 0), (4, .ptr 2 0), (5, .mp 3), (6, .mp 4)], HO [] [] [], []⟩ := piece_of [] (others 77 [0, 2, 4, 5, 6]) 5 (by kernel_rfl)
theorem o3 : PieceC P G none 0 a3 ⟨slots 77 [(0, ces cs), (2, .ptr 0 0), (4, .ptr 2 0), (5, .mp 3), (6, .mp 4)], HO [] [] [], []⟩ ⟨qE cs 0 [], HO [] [] [], []⟩ :=
  piece_of [kv 16 (show Sub (int (encs cs).length) (int cs.length) from Sub.of_eq (by rw [encs_length]))] (others 77 [0, 2, 4, 5, 6, 15, 16, 17]) 5 (by kernel_rfl)
theorem o13 : PieceC P G none 5 a13 ⟨qE cs n [], HO es kn tm, []⟩ ⟨slots 77 [(0, ces cs), (2, .ptr 0 0), (4, .ptr 2 0), (11, .ptr 5 0)], HO es kn tm ++ [.box [.lit .nilFunc]], []⟩ := piece_of [] (others 77 [0, 2, 4, 11]) 6 (by kernel_rfl)
theorem o14 : PieceC P G none 6 a14 ⟨slots 77 [(0, ces cs), (2, .ptr 0 0), (4, .ptr 2 0), (11, .ptr 5 0)], HO es kn tm ++ [.box [.lit .nilFunc]], []⟩ ⟨slots 77 [(0, ces cs), (2, .ptr 0 0), (11, .ptr 5 0)], HN es, []⟩ :=
  piece_of [ko (.hp none (.lit undef) (HN es)), kp (Sub.refl (.lit undef)), kp (show HSub (HO es kn tm ++ [.box [fnB]]) (HN es) from ⟨.inl rfl, .inl rfl, .inl rfl, .inr trivial, .inr trivial, .inl rfl, trivial⟩)] (others 77 [0, 2, 11]) 6 (by kernel_rfl)
theorem o15 : runD P G none ops15 0 [ops15.toList.getD 0 default, ops15.toList.getD 1 default] (slots 77 [(0, ces cs), (2, .ptr 0 0), (11, .ptr 5 0)]) (HN es) [] [] =
    some (.normal, slots 77 [(0, ces cs), (2, .ptr 0 0), (11, .ptr 5 0), (68, fnB), (69, ida 0 0 0)], HN es, [], [], []) := by kernel_rfl
theorem oB (k : Nat) (x : CE) : finF P G 0 fn13 .ret ⟨badE cs k, HO es kn tm ++ [.box (enc x), .box (dt x)], []⟩ [] = some (.ret (.tup [nilS, int 130]), [], []) := by kernel_rfl
theorem oN1 (h : ((0 : Int) != ((encs cs).length : Int)) = true) : tailF P G 0 fn13 aE ⟨slots 77 [(0, ces cs), (2, .ptr 0 0)], HN es, []⟩ (orcsOf [kt h]) = some (.ret (.tup [nilS, int 130]), [], propsOf [kt h]) := by kernel_rfl
theorem oN0 (h : ((0 : Int) != ((encs cs).length : Int)) = false) : tailF P G 0 fn13 aE ⟨slots 77 [(0, ces cs), (2, .ptr 0 0)], HN es, []⟩ (orcsOf [kf h]) = some (.ret (.tup [nilS, int 0]), [], propsOf [kf h]) := by kernel_rfl
theorem oE1 (h : ((n : Int) != ((encs cs).length : Int)) = true) : tailF P G 0 fn13 aE ⟨slots 77 [(0, ces cs), (2, .ptr 0 0)], HB es g n xs, []⟩ (orcsOf [kp (Eq.refl g), kt h]) = some (.ret (.tup [nilS, int 130]), [], propsOf [kp (Eq.refl g), kt h]) := by kernel_rfl
theorem oE0 (h : ((n : Int) != ((encs cs).length : Int)) = false) (h1 : List.take n (List.drop 0 xs) = xs) (h2 : xs.length = n) (h3 : ∀ c ∈ xs, c.all AV.pureB = true) : tailF P G 0 fn13 aE ⟨slots 77 [(0, ces cs), (2, .ptr 0 0)], HB es g n xs, []⟩ (orcsOf [kp (Eq.refl g), kf h, ko (.fz (some 76) xs), kp (Eq.refl g), kp h1, kp h2, kp h3]) = some (.ret (.tup [.sl 9 false xs, int 0]), [], propsOf [kp (Eq.refl g), kf h, ko (.fz (some 76) xs), kp (Eq.refl g), kp h1, kp h2, kp h3]) := by kernel_rfl
end

def rawO (cs : List CE) : AV := if formsB cs = true then (if all cs = [] then .tup [nilS, int 0] else .tup [ces (all cs), int 0]) else .tup [nilS, int 130]
theorem forms_all {cs : List CE} (h : Ok cs) : formsB cs = true ↔ (all cs).length = cs.length := by
  rw [forms_iff, all_len h]
  exact ⟨fun h => h.2, fun h' => ⟨h, h'⟩⟩
theorem fam_nil (V : View) : FamOk V ALL [] := ⟨fun _ h => absurd h List.not_mem_nil, fun _ h => absurd h List.not_mem_nil, fun _ h => absurd h List.not_mem_nil, fun _ h => absurd h List.not_mem_nil⟩
theorem linv_nil {cs : List CE} : LInv (cs.take 0) [] [] :=
  ⟨⟨fun _ h => absurd h List.not_mem_nil, .nil⟩, fun _ h => absurd h List.not_mem_nil, ⟨.nil, fun _ h => absurd h List.not_mem_nil⟩, fun _ h => absurd h List.not_mem_nil, fun _ h => absurd h List.not_mem_nil, fun _ h => absurd h List.not_mem_nil, fun _ h => absurd h List.not_mem_nil⟩
theorem inr0 : InR 0 := by unfold InR; decide
theorem order_raw (cs : List CE) (hcs : cs.length ≤ 1000000) (hR : ∀ x ∈ cs, OkR x) : CallC P G 13 [ces cs] [] (.ret (rawO cs)) [] := by
  have hfn : P.funcs[13]? = some fn13 := by kernel_rfl
  have hb : fn13.body = some (.seq a0 (.seq a1 (.seq a2 (.seq (.seq a3 (.block 0 (.loop L13))) (.seq a13 (.seq a14 (.seq a15 aE))))))) := by kernel_rfl
  refine callC_sem hfn hb fun V a hH hG hok => ?_
  have h0 : V.H.length = 0 := by rw [hH]; rfl
  have hn : fn13.ntmps - [ces cs].length = 76 := by kernel_rfl
  rw [hn] at hok
  refine PieceC.seq (o0 cs) h0 (Step.refl V) hG hok fun V1 a1' s1 g1 k1 => ?_
  refine PieceC.seq (o1 cs) h0 s1 g1 k1 fun V2 a2' s2 g2 k2 => ?_
  refine PieceC.seq (o2 cs) h0 s2 g2 k2 fun V3 a3' s3 g3 k3 => ?_
  refine Go.wpIn_seq ?_
  refine PieceC.seq (o3 cs) h0 s3 g3 k3 fun V4 a4' s4 g4 k4 => ?_
  refine Go.wpIn_block (LoopIn.wpIn ?_)
  refine ord_loop hH hcs hR (fun hno es kn tm k x a' w' hE => ?_) (fun hOk V5 a5 fs ts s5 g5 k5 f5 b5 i5 => ?_) _ 0 rfl (Nat.zero_le _) V4 a4' [] [] s4 g4 k4 (fam_nil V4) (fun _ h => absurd h List.not_mem_nil) linv_nil
  · have e : rawO cs = .tup [nilS, int 130] := by
      unfold rawO
      rw [if_neg fun h => hno (forms_iff.1 h).1]
    rw [e]
    have hfin := oB cs es kn tm k x
    rw [← h0] at hfin
    exact ends_goes hfin trivial _ _ _ hE
  · show (Code.seq a13 (.seq a14 (.seq a15 aE))).wpIn (fz none) 0 P _ a5 V5.w
    have h5 : V5.H.length = 5 := by rw [k5.H]; rfl
    refine PieceC.seq (o13 cs (esF fs) (knE cs) (tmE ts) cs.length) h5 (Step.refl V5) g5 k5 fun V6 a6 s6 g6 k6 => ?_
    have h6 : V6.H.length = 6 := by rw [k6.H]; rfl
    refine PieceC.seq (o14 cs (esF fs) (knE cs) (tmE ts)) h6 (Step.refl V6) g6 k6 fun V7 a7 s7 g7 k7 => ?_
    refine Go.wpIn_seq ?_
    rw [reg15]
    refine wpIn_region ?_
    have hH7 : V7.H = HN (esF fs) := k7.H
    refine runD_pre (os1 := [ops15.toList.getD 0 default, ops15.toList.getD 1 default]) (os2 := [op15]) (i := 0) (orc := []) (orc' := []) (ps := []) (r := none) (o15 cs (esF fs)) trivial (by kernel_rfl) g7 hH7 k7.env k7.defs ?_
    intro V8 a8 s8 g8 hh8 e8 d8
    have hrest : (List.range ops15.size).drop (0 + [ops15.toList.getD 0 default, ops15.toList.getD 1 default].length) = [2] := by kernel_rfl
    rw [hrest]
    have f8 := ((f5.step s6).step s7).step s8
    have h68 : a8.eval (.tmp 68) = .func (.func 30) #[] #[ptrV (V8.ρ 2), ptrV (V8.ρ 0), ptrV (V8.ρ 5)] := rep_fnB (e8.get 68)
    have h69 : a8.eval (.tmp 69) = idV 0 0 0 := rep_id (e8.get 69)
    have hdp := deep_all hOk hcs
    have hnd : ((0, 0, 0) :: idsOf (all cs)).Nodup := by
      refine List.nodup_cons.2 ⟨fun h => ?_, ?_⟩
      · obtain ⟨z, hz, e⟩ := List.mem_map.1 h
        exact hOk.id0 ((mem_all hOk).1 hz).1 e
      · have h1 := all_nodup hOk
        unfold idsOf
        exact List.pairwise_map.2 (List.Pairwise.imp_of_mem (fun {x y} hx hy hne e => hne (hOk.one ((mem_all hOk).1 hx).1 ((mem_all hOk).1 hy).1 e)) h1)
    have hroot := root_ok (i5.link hcs) hOk.ids i5.famR hcs cs.length 0 0 0 hdp inr0 inr0 inr0 V8 ALL g8 hh8 f8 ⟨trivial, fun _ _ => trivial⟩ hnd (by have := hdp.len; omega)
    have hargs : #[] ++ #[Operand.tmp 69].map a8.eval ++ #[ptrV (V8.ρ 2), ptrV (V8.ρ 0), ptrV (V8.ρ 5)] = #[idV 0 0 0, ptrV (V8.ρ 2), ptrV (V8.ρ 0), ptrV (V8.ρ 5)] := by simp [h69]
    refine callV_wp (o := op15) (g := .tmp 68) (f := 30) (fn := fn30) (us := #[]) (vs := #[ptrV (V8.ρ 2), ptrV (V8.ρ 0), ptrV (V8.ρ 5)]) (args := #[.tmp 69]) (ts := #[31]) (by kernel_rfl) (by kernel_rfl) (by kernel_rfl) (by kernel_rfl) (by kernel_rfl) h68 (by rw [hargs]; exact hroot) ?_
    rintro e w' ⟨rfl, V9, rfl, s9, g9, hcase⟩
    refine ⟨_, rfl, ?_⟩
    show aE.wpIn (fz none) 0 P _ (a8.put op15.dst (.tuple #[])) V9.w
    have hs5 : Step V V9 := ((((s5.trans s6).trans s7).trans s8)).thenX s9 fun b hb => by
      obtain ⟨f, hf, _, e⟩ := hb
      rw [← e]
      exact b5 f hf
    have hdef : (a8.put op15.dst (.tuple #[])).defers = [] := by
      rw [put_def]
      cases hdd : a8.defers with
      | nil => rfl
      | cons d l => rw [hdd] at d8; cases d8
    have hz : (all cs).length = (belowF cs (cs.length + 1) 0 0 0).length := rfl
    have henv : ∀ (lv : AV), V9.H[0]? = some (.box [lv]) → EnvOk V9 (slots 77 [(0, ces cs), (2, .ptr 0 0)]) (a8.put op15.dst (.tuple #[])) := fun lv hlv => by
      have h1 : EnvOk V9 (slots 77 [(0, ces cs), (2, .ptr 0 0)]) a8 := by
        have ed : EnvOk V8 (slots 77 [(0, ces cs), (2, .ptr 0 0)]) a8 := by
          refine e8.dull (by kernel_rfl) fun j hj => ?_
          have hj77 : j < 77 := by
            have : (slots 77 [(0, ces cs), (2, AV.ptr 0 0), (11, .ptr 5 0), (68, fnB), (69, ida 0 0 0)]).length = 77 := by kernel_rfl
            omega
          by_cases h0' : j = 0
          · subst h0'; exact .inl rfl
          · by_cases h2' : j = 2
            · subst h2'; exact .inl rfl
            · right
              unfold slots
              rw [List.getD_eq_getElem?_getD, List.getElem?_map, List.getElem?_range hj77]
              simp [slotAt, Ne.symm h0', Ne.symm h2']
        refine ⟨ed.1, fun j hj => ?_⟩
        have hj77 : j < 77 := by
          have : (slots 77 [(0, ces cs), (2, AV.ptr 0 0)]).length = 77 := by kernel_rfl
          omega
        have hr := ed.2 j hj
        by_cases h0' : j = 0
        · subst h0'; exact stepX_sl s9 hr
        · by_cases h2' : j = 2
          · subst h2'; exact stepX_ptr s9 hr (by rw [hh8]; rfl) hlv
          · have : (slots 77 [(0, ces cs), (2, AV.ptr 0 0)]).getD j .dead = .dead := by
              unfold slots
              rw [List.getD_eq_getElem?_getD, List.getElem?_map, List.getElem?_range hj77]
              simp [slotAt, Ne.symm h0', Ne.symm h2']
            rw [this]; exact .dead _
      have := h1.put op15.dst (x := .dead) (v := .tuple #[]) (.dead _)
      rw [show op15.dst = some 70 by kernel_rfl] at this ⊢
      exact this
    rcases hcase with ⟨hnil, hH9⟩ | ⟨hne, g', hH9⟩
    · have hall : all cs = [] := hnil
      have k9 : StOk V9 ⟨slots 77 [(0, ces cs), (2, .ptr 0 0)], HN (esF fs), []⟩ (a8.put op15.dst (.tuple #[])) := ⟨henv nilS (by rw [hH9]; rfl), hH9, by rw [hdef]; exact .nil⟩
      by_cases hz0 : cs.length = 0
      · have e : rawO cs = .tup [nilS, int 0] := by
          unfold rawO
          rw [if_pos ((forms_all hOk).2 (by rw [hall, hz0]; rfl)), if_pos hall]
        rw [e]
        exact tail_run _ (oN0 cs (esF fs) (by rw [encs_length, hz0]; rfl)) h0 hs5 g9 k9
      · have e : rawO cs = .tup [nilS, int 130] := by
          unfold rawO
          rw [if_neg fun h => hz0 (by have := (forms_all hOk).1 h; rw [hall] at this; exact this.symm)]
        rw [e]
        exact tail_run _ (oN1 cs (esF fs) (by rw [encs_length]; simp; omega)) h0 hs5 g9 k9
    · have hne' : all cs ≠ [] := hne
      have k9 : StOk V9 ⟨slots 77 [(0, ces cs), (2, .ptr 0 0)], HB (esF fs) g' (all cs).length (encs (all cs)), []⟩ (a8.put op15.dst (.tuple #[])) := ⟨henv _ (by rw [hH9]; rfl), hH9, by rw [hdef]; exact .nil⟩
      by_cases hl : (all cs).length = cs.length
      · have e : rawO cs = .tup [.sl 9 false (encs (all cs)), int 0] := by
          unfold rawO
          rw [if_pos ((forms_all hOk).2 hl), if_neg hne']
          rfl
        rw [e]
        exact tail_run _ (oE0 cs (esF fs) g' (all cs).length (encs (all cs)) (by rw [encs_length, hl]; simp) (encs_all _) (encs_length _) (encs_pure _)) h0 hs5 g9 k9
      · have e : rawO cs = .tup [nilS, int 130] := by
          unfold rawO
          rw [if_neg fun h => hl ((forms_all hOk).1 h)]
        rw [e]
        exact tail_run _ (oE1 cs (esF fs) g' (all cs).length (encs (all cs)) (by rw [encs_length]; simp; omega)) h0 hs5 g9 k9
theorem order_c (cs : List CE) (hcs : cs.length ≤ 1000000) (hR : ∀ x ∈ cs, OkR x) : CallC P G 13 [ces cs] [] (.ret (.tup [ces (ordV cs), int (ordE cs)])) [] := by
  refine CallC.out (order_raw cs hcs hR) ?_
  unfold rawO ordV ordE
  by_cases hf : formsB cs = true
  · rw [if_pos hf, if_pos hf, if_pos hf]
    split
    · rename_i h
      rw [h]
      exact Sub.tup2 (Sub.nil 9) (Sub.refl _)
    · exact Sub.refl _
  · rw [if_neg hf, if_neg hf, if_neg hf]
    exact Sub.tup2 (Sub.nil 9) (Sub.refl _)
end Go.Sq

/- SEQUENCE, 29: the program's Check, Insert, Erase. -/
namespace Go.Sq
open Go Go.Am Go.Proofs Go.Seat

def OkRs (l : List CE) : Prop := ∀ x ∈ l, OkR x

theorem ck_w (l r : List CE) (e : Int) (b : Bool) (ho : CallC P G 13 [ces l] [] (.ret (.tup [ces r, int e])) []) (hs : CallC P G 35 [ces r, ces l] [] (.ret (bool b)) []) (o : Int) (h : (((e = (0 : Int)) → ((((b) = true) → (e : Int) = (o)) ∧ (((b) = false) → (130 : Int) = (o)))) ∧ ((¬e = (0 : Int)) → (e : Int) = (o)))) : CallC P G 16 [ces l] [] (AOut.ret (int o)) [] := by
  have hz0 := (@ho )
  have hz1 := (@hs )
  by_cases c1 : (e = (0 : Int))
  · have h := h.1 c1
    rcases Bool.eq_false_or_eq_true ((b)) with c2 | c2
    · have h := h.1 c2
      have e1 := h
      exact callC_out (Sub.int_eq e1) [kc [] hz0, kt (beq_iff_eq.2 c1), kc [] hz1, kf (show (!b) = false from (congrArg Bool.not (c2)))] (by kernel_rfl)
    · have h := h.2 c2
      have e1 := h
      exact callC_out (Sub.int_eq e1) [kc [] hz0, kt (beq_iff_eq.2 c1), kc [] hz1, kt (show (!b) = true from (congrArg Bool.not (c2)))] (by kernel_rfl)
  · have h := h.2 c1
    have e1 := h
    exact callC_out (Sub.int_eq e1) [kc [] hz0, kf (beq_eq_false_iff_ne.2 c1), kf (Eq.refl false)] (by kernel_rfl)

theorem ordE_or (l : List CE) : ordE l = 0 ∨ ordE l = 130 := by unfold ordE; split <;> simp
theorem chk_c (l : List CE) (hv : l.length ≤ 1000000) (hR : OkRs l) : CallC P G 16 [ces l] [] (.ret (int (chkE l))) [] := by
  refine ck_w l _ _ _ (order_c l hv hR) (eql_c (ordV l) l (by have := ordV_len l; omega) (by omega)) _ ?_
  have := ordE_or l
  unfold chkE
  grind

theorem in_1 (l : List CE) (c : CE) (e : Int) (he : e ≠ 0) (hc : CallC P G 16 [ces l] [] (.ret (int e)) []) (h : True) : CallC P G 18 [ces l, cel c] [] (AOut.ret (AV.tup [ces [], int e])) [] := by
  have _ := h
  exact CallC.out ((show CallC P G 18 [ces l, cel c] [] (AOut.ret (AV.tup [nilS, int e])) [] from callC_of [kc [] (@hc ), kt (show (e != 0) = true from (congrArg Bool.not (decide_eq_false (by omega))))] (by kernel_rfl))) (Sub.tups ⟨Sub.nil _, Sub.refl _, trivial⟩)

theorem in_2 (l : List CE) (c : CE) (hg : c.gn = true) (hc : CallC P G 16 [ces l] [] (.ret (int 0)) []) (h : True) : CallC P G 18 [ces l, cel c] [] (AOut.ret (AV.tup [ces [], int 130])) [] := by
  have _ := h
  exact CallC.out ((show CallC P G 18 [ces l, cel c] [] (AOut.ret (AV.tup [nilS, int 130])) [] from callC_of [kc [] (@hc ), kf (Eq.refl false), kt hg] (by kernel_rfl))) (Sub.tups ⟨Sub.nil _, Sub.refl _, trivial⟩)

theorem clo_w (l : List CE) (hne : ¬ encs l = []) (hv : l.length ≤ 1000000) (h : True) : CallC P G 36 [ces l] [] (AOut.ret (AV.own 0 0 0 (List.length l))) [AObj.arr 0 9 false (encs l)] := by
  have _ := h
  exact callC_of [kp (show encs l ≠ [] from (by omega)), kf (Eq.refl false), kv 7 (show Am.Sub (AV.own 0 0 0 (0 + List.length (encs l))) (AV.own 0 0 0 (List.length l)) from (Sub.of_eq (by simp [Go.Sq.encs_length, Go.Sq.encs_all]))), kp hne, kp (show (0 + List.length (encs l)) * 80 ≤ 140737488355328 from (by simp only [List.length_append, List.length_cons, List.length_nil, List.length_map, Go.Sq.encs_length, Go.Sq.encs_all] <;> omega))] (by kernel_rfl)

theorem in_3 (l r : List CE) (c : CE) (e : Int) (hne : ¬ encs l = []) (hv : l.length ≤ 1000000) (hg : c.gn = false) (hc : CallC P G 16 [ces l] [] (.ret (int 0)) []) (hcl : CallC P G 36 [ces l] [] (.ret (.own 0 0 0 l.length)) [.arr 0 9 false (encs l)]) (ho : CallC P G 13 [.own 0 1 0 (l.length + 1)] [.arr 1 9 false (encs l ++ [[int c.dv, int c.sq, int c.at', int c.ad, int c.as', int c.aa, int c.tm, str c.vl, bool c.gn]])] (.ret (.tup [ces r, int e])) [.arr 1 9 true (encs l ++ [[int c.dv, int c.sq, int c.at', int c.ad, int c.as', int c.aa, int c.tm, str c.vl, bool c.gn]])]) (h : True) : CallC P G 18 [ces l, cel c] [] (AOut.ret (AV.tup [ces r, int e])) [] := by
  have _ := h
  exact callC_of [kc [] (@hc ), kf (Eq.refl false), kf hg, kc [] (@hcl ), kp (show ∀ (x : List AV), x ∈ encs l → AV.idsInL [] x = true from (Go.Sq.encs_ids _)), kp (show 0 = 0 from (rfl)), kp (show List.length l = List.length (encs l) from ((Go.Sq.encs_length _).symm)), kp (show (List.length l + 1) * 80 ≤ 140737488355328 from (by omega)), kc [1] (@ho ), kp (show ∀ (x : List AV), x ∈ encs l ++ [[int (CE.dv c), int (CE.sq c), int (CE.at' c), int (CE.ad c), int (CE.as' c), int (CE.aa c), int (CE.tm c), str (CE.vl c), Am.bool (CE.gn c)]] → AV.idsInL [] x = true from (by exact (Am.allm_append (Go.Sq.encs_ids _) (Am.allm_cons rfl Am.allm_nil)))), kp (show ∀ (x : List AV), x ∈ encs l ++ chunks (TypeInfo.size (Tables.types (Program.toTables P))[33]) 1 (splice (zerosA (List.map AV.lit (Array.toList (Value.cells (Value.agg #[Value.int IntKind.i64 0, Value.int IntKind.i64 0, Value.int IntKind.i64 0, Value.int IntKind.i64 0, Value.int IntKind.i64 0, Value.int IntKind.i64 0, Value.int IntKind.i64 0, Value.string (ByteArray.mk #[]), Value.bool false])))) (1 * TypeInfo.size (Tables.types (Program.toTables P))[33])) (0 * TypeInfo.size (Tables.types (Program.toTables P))[33]) (List.take (TypeInfo.size (Tables.types (Program.toTables P))[33]) (List.drop 0 (enc c)))) → AV.idsInL [] x = true from (by exact (Am.allm_append (Go.Sq.encs_ids _) (Am.allm_cons rfl Am.allm_nil))))] (by kernel_rfl)

theorem in_0n (r : List CE) (c : CE) (e : Int) (cap : Nat) (hg : c.gn = false) (hc : CallC P G 16 [.lit (.slice none 0 cap)] [] (.ret (int 0)) []) (hcl : CallC P G 36 [.lit (.slice none 0 cap)] [] (.ret (.lit (.slice none 0 0))) []) (ho : CallC P G 13 [.own 0 0 0 1] [.arr 0 9 false [[int c.dv, int c.sq, int c.at', int c.ad, int c.as', int c.aa, int c.tm, str c.vl, bool c.gn]]] (.ret (.tup [ces r, int e])) [.arr 0 9 true [[int c.dv, int c.sq, int c.at', int c.ad, int c.as', int c.aa, int c.tm, str c.vl, bool c.gn]]]) (h : True) : CallC P G 18 [AV.lit (Value.slice none 0 cap), cel c] [] (AOut.ret (AV.tup [ces r, int e])) [] := by
  have _ := h
  exact callC_of [kc [] (@hc ), kf (Eq.refl false), kf hg, kc [] (@hcl ), kp (show [[int (CE.dv c), int (CE.sq c), int (CE.at' c), int (CE.ad c), int (CE.as' c), int (CE.aa c), int (CE.tm c), str (CE.vl c), Am.bool (CE.gn c)]] ≠ [] from (by simp)), kp (show 80 ≤ 140737488355328 from (by omega)), kc [1] (@ho ), kp (show ∀ (x : List AV), x ∈ [[int (CE.dv c), int (CE.sq c), int (CE.at' c), int (CE.ad c), int (CE.as' c), int (CE.aa c), int (CE.tm c), str (CE.vl c), Am.bool (CE.gn c)]] → AV.idsInL [] x = true from (by exact (Am.allm_cons rfl Am.allm_nil))), kp (show ∀ (x : List AV), x ∈ chunks (TypeInfo.size (Tables.types (Program.toTables P))[33]) 1 (splice (zerosA (List.map AV.lit (Array.toList (Value.cells (Value.agg #[Value.int IntKind.i64 0, Value.int IntKind.i64 0, Value.int IntKind.i64 0, Value.int IntKind.i64 0, Value.int IntKind.i64 0, Value.int IntKind.i64 0, Value.int IntKind.i64 0, Value.string (ByteArray.mk #[]), Value.bool false])))) (1 * TypeInfo.size (Tables.types (Program.toTables P))[33])) (0 * TypeInfo.size (Tables.types (Program.toTables P))[33]) (List.take (TypeInfo.size (Tables.types (Program.toTables P))[33]) (List.drop 0 (enc c)))) → AV.idsInL [] x = true from (by exact (Am.allm_cons rfl Am.allm_nil)))] (by kernel_rfl)

theorem in_0s (r : List CE) (c : CE) (e : Int) (cap : Nat) (a : Addr) (hg : c.gn = false) (hc : CallC P G 16 [.lit (.slice (some a) 0 cap)] [] (.ret (int 0)) []) (hcl : CallC P G 36 [.lit (.slice (some a) 0 cap)] [] (.ret (.sl 9 true [])) []) (ho : CallC P G 13 [.own 0 0 0 1] [.arr 0 9 false [[int c.dv, int c.sq, int c.at', int c.ad, int c.as', int c.aa, int c.tm, str c.vl, bool c.gn]]] (.ret (.tup [ces r, int e])) [.arr 0 9 true [[int c.dv, int c.sq, int c.at', int c.ad, int c.as', int c.aa, int c.tm, str c.vl, bool c.gn]]]) (h : True) : CallC P G 18 [AV.lit (Value.slice (some a) 0 cap), cel c] [] (AOut.ret (AV.tup [ces r, int e])) [] := by
  have _ := h
  exact callC_of [kc [] (@hc ), kf (Eq.refl false), kf hg, kc [] (@hcl ), kp (show [[int (CE.dv c), int (CE.sq c), int (CE.at' c), int (CE.ad c), int (CE.as' c), int (CE.aa c), int (CE.tm c), str (CE.vl c), Am.bool (CE.gn c)]] ≠ [] from (by simp)), kp (show 80 ≤ 140737488355328 from (by omega)), kc [1] (@ho ), kp (show ∀ (x : List AV), x ∈ [[int (CE.dv c), int (CE.sq c), int (CE.at' c), int (CE.ad c), int (CE.as' c), int (CE.aa c), int (CE.tm c), str (CE.vl c), Am.bool (CE.gn c)]] → AV.idsInL [] x = true from (by exact (Am.allm_cons rfl Am.allm_nil))), kp (show ∀ (x : List AV), x ∈ [] ++ chunks (TypeInfo.size (Tables.types (Program.toTables P))[33]) 1 (splice (zerosA (List.map AV.lit (Array.toList (Value.cells (Value.agg #[Value.int IntKind.i64 0, Value.int IntKind.i64 0, Value.int IntKind.i64 0, Value.int IntKind.i64 0, Value.int IntKind.i64 0, Value.int IntKind.i64 0, Value.int IntKind.i64 0, Value.string (ByteArray.mk #[]), Value.bool false])))) (1 * TypeInfo.size (Tables.types (Program.toTables P))[33])) (0 * TypeInfo.size (Tables.types (Program.toTables P))[33]) (List.take (TypeInfo.size (Tables.types (Program.toTables P))[33]) (List.drop 0 (enc c)))) → AV.idsInL [] x = true from (by exact (Am.allm_cons rfl Am.allm_nil)))] (by kernel_rfl)

theorem er_1 (l : List CE) (a b c : Int) (e : Int) (he : e ≠ 0) (hc : CallC P G 16 [ces l] [] (.ret (int e)) []) (h : True) : CallC P G 20 [ces l, ida a b c] [] (AOut.ret (AV.tup [ces [], int e])) [] := by
  have _ := h
  exact CallC.out ((show CallC P G 20 [ces l, ida a b c] [] (AOut.ret (AV.tup [nilS, int e])) [] from callC_of [kc [] (@hc ), kt (show (e != 0) = true from (congrArg Bool.not (decide_eq_false (by omega))))] (by kernel_rfl))) (Sub.tups ⟨Sub.nil _, Sub.refl _, trivial⟩)

theorem er_2 (l : List CE) (a b c : Int) (hc : CallC P G 16 [ces l] [] (.ret (int 0)) []) (hf : CallC P G 22 [ces l, ida a b c] [] (.ret (.tup [int 0, bool false])) []) (h : True) : CallC P G 20 [ces l, ida a b c] [] (AOut.ret (AV.tup [ces [], int 130])) [] := by
  have _ := h
  exact CallC.out ((show CallC P G 20 [ces l, ida a b c] [] (AOut.ret (AV.tup [nilS, int 130])) [] from callC_of [kc [] (@hc ), kf (Eq.refl false), kc [] (@hf ), kt (Eq.refl true)] (by kernel_rfl))) (Sub.tups ⟨Sub.nil _, Sub.refl _, trivial⟩)

theorem er_3 (l : List CE) (x : CE) (a b c : Int) (j : Nat) (hv : l.length ≤ 1000000) (hne : ¬ encs l = []) (hj : j < l.length) (hx : l[j]? = some x) (hc : CallC P G 16 [ces l] [] (.ret (int 0)) []) (hf : CallC P G 22 [ces l, ida a b c] [] (.ret (.tup [int j, bool true])) []) (hcl : CallC P G 36 [ces l] [] (.ret (.own 0 0 0 l.length)) [.arr 0 9 false (encs l)]) (r : AV) (h : ((∀ (x : List AV), x ∈ encs l → AV.idsInL [] x = true) ∧ (∃ x2 : CE, (l[0 + Int.toNat (↑j : Int)]? = some x2) ∧ ((List.take (List.length l) (List.drop 0 (List.set (encs l) (0 + Int.toNat (↑j : Int)) [int (CE.dv x2), int (CE.sq x2), int (CE.at' x2), int (CE.ad x2), int (CE.as' x2), int (CE.aa x2), int (CE.tm x2), str (CE.vl x2), Am.bool true])) = List.set (encs l) (0 + Int.toNat (↑j : Int)) [int (CE.dv x2), int (CE.sq x2), int (CE.at' x2), int (CE.ad x2), int (CE.as' x2), int (CE.aa x2), int (CE.tm x2), str (CE.vl x2), Am.bool true]) ∧ ((List.length (List.set (encs l) (0 + Int.toNat (↑j : Int)) [int (CE.dv x2), int (CE.sq x2), int (CE.at' x2), int (CE.ad x2), int (CE.as' x2), int (CE.aa x2), int (CE.tm x2), str (CE.vl x2), Am.bool true]) = List.length l) ∧ ((∀ (c : List AV), c ∈ List.set (encs l) (0 + Int.toNat (↑j : Int)) [int (CE.dv x2), int (CE.sq x2), int (CE.at' x2), int (CE.ad x2), int (CE.as' x2), int (CE.aa x2), int (CE.tm x2), str (CE.vl x2), Am.bool true] → List.all c AV.pureB = true) ∧ Sub (AV.tup [AV.sl 9 false (List.set (encs l) (0 + Int.toNat (↑j : Int)) [int (CE.dv x2), int (CE.sq x2), int (CE.at' x2), int (CE.ad x2), int (CE.as' x2), int (CE.aa x2), int (CE.tm x2), str (CE.vl x2), Am.bool true]), int 0]) (AV.tup [r, int 0]))))))) : CallC P G 20 [ces l, ida a b c] [] (AOut.ret (AV.tup [r, int 0])) [] := by
  have hz3 : 0 = 0 := (rfl)
  obtain ⟨o1, h⟩ := h
  obtain ⟨x2, o3, h⟩ := h
  obtain ⟨o4, h⟩ := h
  obtain ⟨o5, h⟩ := h
  obtain ⟨o6, h⟩ := h
  have e1 := h
  exact CallC.out ((show CallC P G 20 [ces l, ida a b c] [] (AOut.ret (AV.tup [AV.sl 9 false (List.set (encs l) (0 + Int.toNat (↑j : Int)) [int (CE.dv x2), int (CE.sq x2), int (CE.at' x2), int (CE.ad x2), int (CE.as' x2), int (CE.aa x2), int (CE.tm x2), str (CE.vl x2), Am.bool true]), int 0])) [] from callC_of [kc [] (@hc ), kf (Eq.refl false), kc [] (@hf ), kf (Eq.refl false), kc [] (@hcl ), ko (Orc.elem (enc x2)), ko (Orc.frz (List.set (encs l) (0 + Int.toNat (↑j : Int)) [int (CE.dv x2), int (CE.sq x2), int (CE.at' x2), int (CE.ad x2), int (CE.as' x2), int (CE.aa x2), int (CE.tm x2), str (CE.vl x2), Am.bool true])), kp o1, kp hz3, kp (show (0 : Int) ≤ (↑j : Int) ∧ (↑j : Int) < (↑(List.length l) : Int) from (by omega)), kp hz3, kp hz3, kp (show (encs l)[0 + Int.toNat (↑j : Int)]? = some (enc x2) from (el_get o3)), kp hz3, kp o4, kp o5, kp o6] (by kernel_rfl))) e1

end Go.Sq

/- SEQUENCE, 30: the program's Insert and Erase. -/
namespace Go.Sq
open Go Go.Am Go.Proofs Go.Seat

theorem clo_c (l : List CE) (hne : l ≠ []) (hv : l.length ≤ 1000000) : CallC P G 36 [ces l] [] (.ret (.own 0 0 0 l.length)) [.arr 0 9 false (encs l)] := clo_w l (fun h => hne (by simpa [encs] using h)) hv trivial
theorem cl0_raw (cap : Nat) : CallC P G 36 [.lit (.slice none 0 cap)] [] (.ret nilS) [] := callC_of [kt (Eq.refl true)] (by kernel_rfl)
theorem cl1_raw (a : Addr) (cap : Nat) : CallC P G 36 [.lit (.slice (some a) 0 cap)] [] (.ret (.sl 9 true [])) [] := callC_of [kf (Eq.refl false), ko .emp, kp (rfl : ([] : List (List AV)) = [])] (by kernel_rfl)
theorem chk_lit (A : Option Addr) (cap : Nat) (h : CallC P G 16 [ces []] [] (.ret (int 0)) []) : CallC P G 16 [.lit (.slice A 0 cap)] [] (.ret (int 0)) [] :=
  h.args rfl fun j hj => by
    have : j < 1 := hj
    obtain rfl : j = 0 := by omega
    exact Sub.emptyL 9 A cap
theorem OkRs.snoc {l : List CE} {c : CE} (h : OkRs l) (hc : OkR c) : OkRs (l ++ [c]) := fun x hx => by
  rcases List.mem_append.1 hx with h' | h'
  · exact h x h'
  · rw [List.mem_singleton.1 h']; exact hc
theorem ins_c (l : List CE) (c : CE) (hv : l.length ≤ 999999) (hR : OkRs l) (hc : OkR c) : CallC P G 18 [ces l, cel c] [] (.ret (.tup [ces (insV l c), int (insE l c)])) [] := by
  have hk := chk_c l (by omega) hR
  by_cases h0 : chkE l = 0
  · rw [h0] at hk
    by_cases hg : c.gn = true
    · have e1 : insV l c = [] := by simp [insV, h0, hg]
      have e2 : insE l c = 130 := by simp [insE, h0, hg]
      rw [e1, e2]
      exact in_2 l c hg hk trivial
    · have e1 : insV l c = ordV (l ++ [c]) := by simp [insV, h0, hg]
      have e2 : insE l c = ordE (l ++ [c]) := by simp [insE, h0, hg]
      rw [e1, e2]
      have hg' : c.gn = false := by simpa using hg
      have ho := order_c (l ++ [c]) (by rw [List.length_append, List.length_singleton]; omega) (hR.snoc hc)
      have hp := encs_pure (l ++ [c])
      have hn := encs_length (l ++ [c])
      rw [List.length_append, List.length_singleton] at hn
      have he : encs (l ++ [c]) = encs l ++ [enc c] := by simp [encs]
      rw [ces, he] at ho
      rw [he] at hp hn
      have ho' : ∀ g, CallC P G 13 [.own 0 g 0 (l.length + 1)] [.arr g 9 false (encs l ++ [enc c])] (.ret (.tup [ces (ordV (l ++ [c])), int (ordE (l ++ [c]))])) [.arr g 9 true (encs l ++ [enc c])] := fun g =>
        CallC.frzArg (by rw [← hn, List.take_length]) hn hp rfl ho
      cases l with
      | nil => exact CallC.slEmptyH (fun cap => in_0n _ c _ cap hg' (chk_lit none cap hk) (cl0_raw cap) (ho' 0) trivial) (fun a cap => in_0s _ c _ cap a hg' (chk_lit (some a) cap hk) (cl1_raw a cap) (ho' 0) trivial)
      | cons x l => exact in_3 (x :: l) _ c _ (by simp [encs]) (by omega) hg' hk (clo_c (x :: l) (by simp) (by omega)) (ho' 1) trivial
  · have e1 : insV l c = [] := by simp [insV, h0]
    have e2 : insE l c = chkE l := by simp [insE, h0]
    rw [e1, e2]
    exact in_1 l c _ h0 hk trivial
theorem era_c (l : List CE) (a b c : Int) (hv : l.length ≤ 1000000) (hR : OkRs l) : CallC P G 20 [ces l, ida a b c] [] (.ret (.tup [ces (eraV l a b c), int (eraE l a b c)])) [] := by
  have hc := chk_c l hv hR
  by_cases h0 : chkE l = 0
  · rw [h0] at hc
    have hf := find_c l a b c (by omega)
    cases hx : fX (pid a b c) l with
    | none =>
      rw [hx] at hf
      have e1 : eraV l a b c = [] := by simp [eraV, h0, hx]
      have e2 : eraE l a b c = 130 := by simp [eraE, h0, hx]
      rw [e1, e2]
      exact er_2 l a b c hc hf trivial
    | some j =>
      rw [hx] at hf
      obtain ⟨x, hj, _⟩ := fX_get hx
      have hlt := (List.getElem?_eq_some_iff.1 hj).1
      have hne : l ≠ [] := fun h => by rw [h] at hlt; simp at hlt
      have e1 : eraV l a b c = l.set j { x with gn := true } := by simp [eraV, h0, hx, goneAt_set hj]
      have e2 : eraE l a b c = 0 := by simp [eraE, h0, hx]
      rw [e1, e2]
      have hs : ∀ n, n = j → List.set (encs l) n [int x.dv, int x.sq, int x.at', int x.ad, int x.as', int x.aa, int x.tm, str x.vl, bool true] = encs (l.set j { x with gn := true }) := fun n hn => by
        subst hn; exact encs_set l n { x with gn := true }
      have hl : (l.set j { x with gn := true }).length = l.length := List.length_set
      refine er_3 l x a b c j hv (fun h => hne (by simpa [encs] using h)) hlt hj hc hf (clo_c l hne hv) (ces (l.set j { x with gn := true })) ⟨encs_ids l, x, by rw [Int.toNat_natCast, Nat.zero_add]; exact hj, ?_⟩
      rw [hs (0 + (j : Int).toNat) (by rw [Int.toNat_natCast, Nat.zero_add])]
      exact ⟨by rw [List.drop_zero, ← hl, ← encs_length, List.take_length], by rw [encs_length, hl], encs_pure _, Sub.refl _⟩
  · have e1 : eraV l a b c = [] := by simp [eraV, h0]
    have e2 : eraE l a b c = chkE l := by simp [eraE, h0]
    rw [e1, e2]
    exact er_1 l a b c _ h0 hc trivial
end Go.Sq

/- THE ABSTRACT MACHINE, 33: two objects made in one region, in either order. -/
namespace Go.Am
open Go

mutual
theorem ren_low {σ : Nat → Nat} {p : Nat} (h : ∀ i, i < p → σ i = i) : ∀ x : AV, x.idsLt p = true → x.ren σ = x
  | .lit v, _ => rfl
  | .ptr id off, hx => by
    simp only [AV.idsLt, Nat.blt_eq] at hx
    simp only [AV.ren, h id hx]
  | .apt id g k j, hx => by
    simp only [AV.idsLt, Nat.blt_eq] at hx
    simp only [AV.ren, h id hx]
  | .imm cs, _ => rfl
  | .sl sz t xs, _ => rfl
  | .own id g off len, hx => by
    simp only [AV.idsLt, Nat.blt_eq] at hx
    simp only [AV.ren, h id hx]
  | .mp id, hx => by
    simp only [AV.idsLt, Nat.blt_eq] at hx
    simp only [AV.ren, h id hx]
  | .md .., _ => rfl
  | .yl id, hx => by
    simp only [AV.idsLt, Nat.blt_eq] at hx
    simp only [AV.ren, h id hx]
  | .fn f us bs, hx => by
    simp only [AV.idsLt, Bool.and_eq_true] at hx
    simp only [AV.ren, renL_low h us hx.1, renL_low h bs hx.2]
  | .ifc t x, hx => by
    simp only [AV.idsLt] at hx
    simp only [AV.ren, ren_low h x hx]
  | .agg cs, hx => by
    simp only [AV.idsLt] at hx
    simp only [AV.ren, renL_low h cs hx]
  | .tup cs, hx => by
    simp only [AV.idsLt] at hx
    simp only [AV.ren, renL_low h cs hx]
  | .dead, _ => rfl
theorem renL_low {σ : Nat → Nat} {p : Nat} (h : ∀ i, i < p → σ i = i) : ∀ xs : List AV, AV.idsLtL p xs = true → AV.renL σ xs = xs
  | [], _ => rfl
  | x :: xs, hx => by
    simp only [AV.idsLtL, Bool.and_eq_true] at hx
    simp only [AV.renL, ren_low h x hx.1, renL_low h xs hx.2]
end
mutual
theorem idsLt_mono {p q : Nat} (h : p ≤ q) : ∀ x : AV, x.idsLt p = true → x.idsLt q = true
  | .lit v, _ => rfl
  | .ptr id off, hx | .apt id _ _ _, hx | .own id _ _ _, hx | .mp id, hx | .yl id, hx => by
    simp only [AV.idsLt, Nat.blt_eq] at *
    omega
  | .imm cs, _ => rfl
  | .sl sz t xs, _ => rfl
  | .md .., _ => rfl
  | .fn f us bs, hx => by
    simp only [AV.idsLt, Bool.and_eq_true] at *
    exact ⟨idsLtL_mono h us hx.1, idsLtL_mono h bs hx.2⟩
  | .ifc t x, hx => by
    simp only [AV.idsLt] at *
    exact idsLt_mono h x hx
  | .agg cs, hx | .tup cs, hx => by
    simp only [AV.idsLt] at *
    exact idsLtL_mono h cs hx
  | .dead, _ => rfl
theorem idsLtL_mono {p q : Nat} (h : p ≤ q) : ∀ xs : List AV, AV.idsLtL p xs = true → AV.idsLtL q xs = true
  | [], _ => rfl
  | x :: xs, hx => by
    simp only [AV.idsLtL, Bool.and_eq_true] at *
    exact ⟨idsLt_mono h x hx.1, idsLtL_mono h xs hx.2⟩
end
theorem renO_low {σ : Nat → Nat} {p : Nat} (h : ∀ i, i < p → σ i = i) (o : AObj) (ho : o.idsLt p) : o.ren σ = o := by
  cases o with
  | box cs => simp only [AObj.ren, renL_low h cs ho]
  | arr g sz fz xs =>
    simp only [AObj.ren]
    have : xs.map (AV.renL σ) = xs := by
      conv => rhs; rw [← List.map_id xs]
      exact List.map_congr_left fun x hx => renL_low h x (ho x hx)
    rw [this]
  | map es =>
    simp only [AObj.ren]
    have : es.map (fun e => (e.1, e.2.ren σ)) = es := by
      conv => rhs; rw [← List.map_id es]
      exact List.map_congr_left fun e he => by rw [ren_low h e.2 (ho e he)]; rfl
    rw [this]
  | rng st q env ps us bd => simp only [AObj.ren, renL_low h env ho]
  | iter => rfl
  | dfd => rfl
  | gone => rfl
def swap2 (p i : Nat) : Nat := if i = p then p + 1 else if i = p + 1 then p else i
theorem swap2_low {p i : Nat} (h : i < p) : swap2 p i = i := by unfold swap2; rw [if_neg (by omega), if_neg (by omega)]
theorem two_swap {G : Nat → Option (List AV)} {V0 V : View} {K : List AObj} {oA oB : AObj} {envA envB : List AV} {a : Act} (hs : Step V0 V) (hn : V0.H.length ≤ K.length) (hG : HeapRep G V) (hH : V.H = K ++ [oB, oA]) (hK : ∀ o ∈ K, o.idsLt K.length) (hA : oA.idsLt K.length) (hB : oB.idsLt K.length)
    (he : EnvOk V envB a) (hr : AV.renL (swap2 K.length) envA = envB) (hi : AV.idsLtL (K.length + 2) envA = true) : ∃ V', V'.w = V.w ∧ Step V0 V' ∧ HeapRep G V' ∧ V'.H = K ++ [oA, oB] ∧ EnvOk V' envA a := by
  have hlen : V.H.length = K.length + 2 := by rw [hH]; simp
  have hlow : ∀ i, i < K.length → swap2 K.length i = i := fun i h => swap2_low h
  have low : ∀ {o : AObj} {p q : Nat}, p ≤ q → o.idsLt p → o.idsLt q := fun {o p q} hpq h => by
    have key : ∀ x : AV, x.idsLt p = true → x.idsLt q = true := fun x hx => idsLt_mono hpq x hx
    have keyL : ∀ xs : List AV, AV.idsLtL p xs = true → AV.idsLtL q xs = true := fun xs hx => idsLtL_mono hpq xs hx
    cases o with
    | box cs => exact keyL cs h
    | arr g sz fz xs => exact fun x hx => keyL x (h x hx)
    | map es => exact fun e he => key e.2 (h e he)
    | rng st r env ps us bd => exact keyL env h
    | iter => trivial
    | dfd => trivial
    | gone => trivial
  have lk : Lk { V with H := K ++ [oA, oB], ρ := fun i => V.ρ (swap2 K.length i) } V (swap2 K.length) := by
    refine ⟨rfl, fun _ => Iff.rfl, fun _ _ => rfl, fun i o ho => ?_⟩
    rw [hH]
    have ho : (K ++ [oA, oB])[i]? = some o := ho
    rcases Nat.lt_trichotomy i K.length with h | h | h
    · rw [List.getElem?_append_left h] at ho
      rw [hlow i h, List.getElem?_append_left h, renO_low hlow o (hK o (List.mem_of_getElem? ho))]
      exact ho
    · subst h
      rw [List.getElem?_append_right (Nat.le_refl _)] at ho
      simp only [Nat.sub_self, List.getElem?_cons_zero, Option.some.injEq] at ho
      subst ho
      have : swap2 K.length K.length = K.length + 1 := by unfold swap2; rw [if_pos rfl]
      rw [this, List.getElem?_append_right (by omega), renO_low hlow oA hA]
      simp
    · have h1 : i = K.length + 1 := by
        have := (List.getElem?_eq_some_iff.1 ho).1
        simp at this
        omega
      subst h1
      rw [List.getElem?_append_right (by omega)] at ho
      simp only [Nat.add_sub_cancel_left, List.getElem?_cons_succ, List.getElem?_cons_zero, Option.some.injEq] at ho
      subst ho
      have : swap2 K.length (K.length + 1) = K.length := by unfold swap2; rw [if_neg (by omega), if_pos rfl]
      rw [this, List.getElem?_append_right (Nat.le_refl _), renO_low hlow oB hB]
      simp
  have hl2 : (K ++ [oA, oB]).length = K.length + 2 := by simp
  refine ⟨{ V with H := K ++ [oA, oB], ρ := fun i => V.ρ (swap2 K.length i) }, rfl, ?_, HeapRep.bwd lk hG (fun i o ho => ?_) (fun i j hi hj e => ?_), rfl, Reps.bwd lk ?_ ?_⟩
  · refine ⟨hs.os, hs.tape, hs.output, hs.size, hs.drawn, hs.keep, hs.data, by show _ ≤ (K ++ [oA, oB]).length; omega, fun id hid => ?_, fun id hid => ?_⟩
    · have hid : id < K.length + 2 := by rw [← hl2]; exact hid
      show (id < V0.H.length ∧ V.ρ (swap2 K.length id) = V0.ρ id) ∨ _ ≤ V.ρ (swap2 K.length id)
      by_cases h : id < K.length
      · rw [hlow id h]; exact hs.fresh id (by omega)
      · right
        have h7 : K.length ≤ swap2 K.length id ∧ swap2 K.length id < K.length + 2 := by unfold swap2; split <;> (try split) <;> omega
        rcases hs.fresh (swap2 K.length id) (by omega) with ⟨h1, _⟩ | h1
        · omega
        · exact h1
    · have h := hs.obj id hid
      have hk : id < K.length := by omega
      unfold ObjStep at h ⊢
      have e1 : V.H[id]? = K[id]? := by rw [hH, List.getElem?_append_left hk]
      have e2 : (K ++ [oA, oB])[id]? = K[id]? := List.getElem?_append_left hk
      show match V0.H[id]?, (K ++ [oA, oB])[id]? with | _, _ => _
      rw [e1] at h
      rw [e2]
      simp only [hlow id hk]
      exact h
  · show o.idsLt (K ++ [oA, oB]).length
    rw [hl2]
    have ho : (K ++ [oA, oB])[i]? = some o := ho
    have hm := List.mem_of_getElem? ho
    rcases List.mem_append.1 hm with h | h
    · exact low (by omega) (hK o h)
    · simp only [List.mem_cons, List.not_mem_nil, or_false] at h
      rcases h with rfl | rfl
      · exact low (by omega) hA
      · exact low (by omega) hB
  · unfold swap2 at e
    repeat' split at e
    all_goals omega
  · show AV.idsLtL (K ++ [oA, oB]).length envA = true
    rw [hl2]; exact hi
  · rw [hr]; exact he
end Go.Am

/- SEQUENCE, 31: the law's cells. -/
namespace Go.Sq
open Go Go.Am Go.Proofs Go.Seat

def xs1 : ByteArray := ⟨#[120]⟩
def ceM (d s t a b c : Int) : CE := ⟨d, s, 0, a, b, c, t, xs1, false⟩

theorem cell_c (d s t a b c : Int) (h : True) : CallC P G 28 [int d, int s, int t, ida a b c] [] (AOut.ret (cel (ceM d s t a b c))) [] := by
  have _ := h
  exact callC_of [] (by kernel_rfl)

end Go.Sq

/- SEQUENCE, 32: the region of sane that makes two variables. -/
namespace Go.Sq
open Go Go.Am Go.Proofs Go.Seat
theorem e2_defs {V V' : View} {l : List Deferred} (h : DefsRep V [] l) : DefsRep V' [] l := by
  cases l with
  | nil => exact .nil
  | cons d l => cases h
noncomputable def ops_sa : Array Oper := opsOf (regAt P 11 0)
theorem reg_sa : (regAt P 11 0) = .region 2 ops_sa true := by kernel_rfl
theorem deps_sa : depsOf ops_sa = [[], [0], [1], [], [3], [4, 2], [], [], [6, 2, 5, 0, 1, 7], [7, 5, 8, 0, 1, 2, 3, 4, 6]] := by kernel_rfl
def ev_sa  (a0 a1 e0 e1 e2 e3 e4 e5 : AV) : List AV := slots 166 ([(0, bool false), (1, .ptr 0 0)] ++ [(2, a0), (3, a1), (21, e0), (22, e1), (23, e2), (24, e3), (25, e4), (26, e5)])
noncomputable def op_sa (i : Nat) : Oper := ops_sa.toList.getD i default
def K_sa  : List AObj := [.box (enc (ceM 0 1 1 0 0 0))]
def b0_sa  (l : Bool) : AObj := if l = true then .box (enc (ceM 1 1 2 0 1 0)) else (.box [int 0, int 0, int 0, int 0, int 0, int 0, int 0, str ByteArray.empty, bool false])
def b1_sa  (l : Bool) : AObj := if l = true then .box (enc (ceM 2 1 3 0 1 0)) else (.box [int 0, int 0, int 0, int 0, int 0, int 0, int 0, str ByteArray.empty, bool false])
structure J_sa  (listed : Array Bool) (env : List AV) (H : List AObj) : Prop where
  ex : ∃ l0 l1 l2 l3 l4 l5 l6 l7 l8 l9 a0 a1 e0 e1 e2 e3 e4 e5 T, listed = #[l0, l1, l2, l3, l4, l5, l6, l7, l8, l9] ∧ env = (ev_sa  a0 a1 e0 e1 e2 e3 e4 e5) ∧ H = (K_sa) ++ T ∧ (l0 = true → e0 = .ptr 0 0) ∧ (l1 = true → e1 = ida 0 1 0) ∧ (l2 = true → e2 = cel (ceM 1 1 2 0 1 0)) ∧ (l3 = true → e3 = .ptr 0 0) ∧ (l4 = true → e4 = ida 0 1 0) ∧ (l5 = true → e5 = cel (ceM 2 1 3 0 1 0)) ∧ (l6 = false ∨ l7 = false → l8 = false) ∧ (l8 = false → l9 = false) ∧
    ((l6 = false ∧ l7 = false ∧ T = []) ∨ (l6 = true ∧ l7 = false ∧ a0 = .ptr 1 0 ∧ T = [(.box [int 0, int 0, int 0, int 0, int 0, int 0, int 0, str ByteArray.empty, bool false])]) ∨ (l6 = false ∧ l7 = true ∧ a1 = .ptr 1 0 ∧ T = [(.box [int 0, int 0, int 0, int 0, int 0, int 0, int 0, str ByteArray.empty, bool false])]) ∨
      (l6 = true ∧ l7 = true ∧ ((a0 = .ptr 1 0 ∧ a1 = .ptr 2 0 ∧ T = [(b0_sa l8), (b1_sa l9)]) ∨ (a0 = .ptr 2 0 ∧ a1 = .ptr 1 0 ∧ T = [(b1_sa l9), (b0_sa l8)]))))
theorem step_sa   : ∀ listed env H, J_sa  listed env H → ∀ i ∈ Region.ready .any ops_sa listed, ∃ o orc k z H' orc' ps, ops_sa[i]? = some o ∧ stepA P G ops_sa (guards ops_sa i) env H o orc = some (k, .ret z, H', orc', ps) ∧ AllP ps ∧ J_sa  (listed.setIfInBounds i true) (putA env o.dst z) H' := by
  intro listed env H hJ i hi
  obtain ⟨h1, h2, h3⟩ := ready_deps hi
  rw [deps_sa] at h3
  obtain ⟨l0, l1, l2, l3, l4, l5, l6, l7, l8, l9, a0, a1, e0, e1, e2, e3, e4, e5, T, rfl, rfl, rfl, k0, k1, k2, k3, k4, k5, kb, kc, kT⟩ := hJ.ex
  have hsz : ops_sa.size = 10 := by kernel_rfl
  have hiN : i < 10 := by omega
  have b8 : l6 = false ∨ l7 = false → l8 = false := kb
  have b9 : l8 = false → l9 = false := kc
  match i, hiN with
  | 0, _ =>
    exact ⟨op_sa 0, [], .free, .ptr 0 0, _, [], [], by kernel_rfl, (by kernel_rfl : stepA P G ops_sa (guards ops_sa 0) (ev_sa  a0 a1 e0 e1 e2 e3 e4 e5) ((K_sa) ++ T) (op_sa 0) [] = some (.free, .ret (.ptr 0 0), ((K_sa) ++ T), [], [])), trivial, ⟨_, _, _, _, _, _, _, _, _, _, _, _, _, _, _, _, _, _, T, rfl, (by kernel_rfl : putA (ev_sa  a0 a1 e0 e1 e2 e3 e4 e5) (op_sa 0).dst (.ptr 0 0) = (ev_sa  a0 a1 (.ptr 0 0) e1 e2 e3 e4 e5)), rfl, fun _ => rfl, k1, k2, k3, k4, k5, kb, kc, kT⟩⟩
  | 1, _ =>
    obtain rfl := k0 (h3 0 (by decide))
    exact ⟨op_sa 1, [], .read, ida 0 1 0, _, [], [], by kernel_rfl, (by kernel_rfl : stepA P G ops_sa (guards ops_sa 1) (ev_sa  a0 a1 (.ptr 0 0) e1 e2 e3 e4 e5) ((K_sa) ++ T) (op_sa 1) [] = some (.read, .ret (ida 0 1 0), ((K_sa) ++ T), [], [])), trivial, ⟨_, _, _, _, _, _, _, _, _, _, _, _, _, _, _, _, _, _, T, rfl, (by kernel_rfl : putA (ev_sa  a0 a1 (.ptr 0 0) e1 e2 e3 e4 e5) (op_sa 1).dst (ida 0 1 0) = (ev_sa  a0 a1 (.ptr 0 0) (ida 0 1 0) e2 e3 e4 e5)), rfl, fun _ => rfl, fun _ => rfl, k2, k3, k4, k5, kb, kc, kT⟩⟩
  | 2, _ =>
    obtain rfl := k1 (h3 1 (by decide))
    exact ⟨op_sa 2, [.call [] (.ret (cel (ceM 1 1 2 0 1 0))) []], .free, cel (ceM 1 1 2 0 1 0), _, [], [CallC P G 28 [int 1, int 1, int 2, ida 0 1 0] [] (.ret (cel (ceM 1 1 2 0 1 0))) []], by kernel_rfl, (by kernel_rfl : stepA P G ops_sa (guards ops_sa 2) (ev_sa  a0 a1 e0 (ida 0 1 0) e2 e3 e4 e5) ((K_sa) ++ T) (op_sa 2) [.call [] (.ret (cel (ceM 1 1 2 0 1 0))) []] = some (.free, .ret (cel (ceM 1 1 2 0 1 0)), ((K_sa) ++ T), [], [CallC P G 28 [int 1, int 1, int 2, ida 0 1 0] [] (.ret (cel (ceM 1 1 2 0 1 0))) []])), ⟨cell_c 1 1 2 0 1 0 trivial, trivial⟩, ⟨_, _, _, _, _, _, _, _, _, _, _, _, _, _, _, _, _, _, T, rfl, (by kernel_rfl : putA (ev_sa  a0 a1 e0 (ida 0 1 0) e2 e3 e4 e5) (op_sa 2).dst (cel (ceM 1 1 2 0 1 0)) = (ev_sa  a0 a1 e0 (ida 0 1 0) (cel (ceM 1 1 2 0 1 0)) e3 e4 e5)), rfl, k0, fun _ => rfl, fun _ => rfl, k3, k4, k5, kb, kc, kT⟩⟩
  | 3, _ =>
    exact ⟨op_sa 3, [], .free, .ptr 0 0, _, [], [], by kernel_rfl, (by kernel_rfl : stepA P G ops_sa (guards ops_sa 3) (ev_sa  a0 a1 e0 e1 e2 e3 e4 e5) ((K_sa) ++ T) (op_sa 3) [] = some (.free, .ret (.ptr 0 0), ((K_sa) ++ T), [], [])), trivial, ⟨_, _, _, _, _, _, _, _, _, _, _, _, _, _, _, _, _, _, T, rfl, (by kernel_rfl : putA (ev_sa  a0 a1 e0 e1 e2 e3 e4 e5) (op_sa 3).dst (.ptr 0 0) = (ev_sa  a0 a1 e0 e1 e2 (.ptr 0 0) e4 e5)), rfl, k0, k1, k2, fun _ => rfl, k4, k5, kb, kc, kT⟩⟩
  | 4, _ =>
    obtain rfl := k3 (h3 3 (by decide))
    exact ⟨op_sa 4, [], .read, ida 0 1 0, _, [], [], by kernel_rfl, (by kernel_rfl : stepA P G ops_sa (guards ops_sa 4) (ev_sa  a0 a1 e0 e1 e2 (.ptr 0 0) e4 e5) ((K_sa) ++ T) (op_sa 4) [] = some (.read, .ret (ida 0 1 0), ((K_sa) ++ T), [], [])), trivial, ⟨_, _, _, _, _, _, _, _, _, _, _, _, _, _, _, _, _, _, T, rfl, (by kernel_rfl : putA (ev_sa  a0 a1 e0 e1 e2 (.ptr 0 0) e4 e5) (op_sa 4).dst (ida 0 1 0) = (ev_sa  a0 a1 e0 e1 e2 (.ptr 0 0) (ida 0 1 0) e5)), rfl, k0, k1, k2, fun _ => rfl, fun _ => rfl, k5, kb, kc, kT⟩⟩
  | 5, _ =>
    obtain rfl := k4 (h3 4 (by decide))
    exact ⟨op_sa 5, [.call [] (.ret (cel (ceM 2 1 3 0 1 0))) []], .free, cel (ceM 2 1 3 0 1 0), _, [], [CallC P G 28 [int 2, int 1, int 3, ida 0 1 0] [] (.ret (cel (ceM 2 1 3 0 1 0))) []], by kernel_rfl, (by kernel_rfl : stepA P G ops_sa (guards ops_sa 5) (ev_sa  a0 a1 e0 e1 e2 e3 (ida 0 1 0) e5) ((K_sa) ++ T) (op_sa 5) [.call [] (.ret (cel (ceM 2 1 3 0 1 0))) []] = some (.free, .ret (cel (ceM 2 1 3 0 1 0)), ((K_sa) ++ T), [], [CallC P G 28 [int 2, int 1, int 3, ida 0 1 0] [] (.ret (cel (ceM 2 1 3 0 1 0))) []])), ⟨cell_c 2 1 3 0 1 0 trivial, trivial⟩, ⟨_, _, _, _, _, _, _, _, _, _, _, _, _, _, _, _, _, _, T, rfl, (by kernel_rfl : putA (ev_sa  a0 a1 e0 e1 e2 e3 (ida 0 1 0) e5) (op_sa 5).dst (cel (ceM 2 1 3 0 1 0)) = (ev_sa  a0 a1 e0 e1 e2 e3 (ida 0 1 0) (cel (ceM 2 1 3 0 1 0)))), rfl, k0, k1, k2, k3, fun _ => rfl, fun _ => rfl, kb, kc, kT⟩⟩
  | 6, _ =>
    have hf : l6 = false := h1
    subst hf
    rcases kT with ⟨p1, q, rfl⟩ | ⟨p1, q, r, rfl⟩ | ⟨p1, q, r, rfl⟩ | ⟨p1, q, _⟩
    · exact ⟨op_sa 6, [], .eff, .ptr 1 0, _, [], [], by kernel_rfl, (by kernel_rfl : stepA P G ops_sa (guards ops_sa 6) (ev_sa  a0 a1 e0 e1 e2 e3 e4 e5) ((K_sa) ++ []) (op_sa 6) [] = some (.eff, .ret (.ptr 1 0), ((K_sa) ++ [(.box [int 0, int 0, int 0, int 0, int 0, int 0, int 0, str ByteArray.empty, bool false])]), [], [])), trivial, ⟨_, _, _, _, _, _, _, _, _, _, _, _, _, _, _, _, _, _, _, rfl, (by kernel_rfl : putA (ev_sa  a0 a1 e0 e1 e2 e3 e4 e5) (op_sa 6).dst (.ptr 1 0) = (ev_sa  (.ptr 1 0) a1 e0 e1 e2 e3 e4 e5)), rfl, k0, k1, k2, k3, k4, k5, fun _ => b8 (.inl rfl), b9, .inr (.inl ⟨rfl, q, rfl, rfl⟩)⟩⟩
    · cases p1
    · subst r q
      have x8 : l8 = false := b8 (.inl rfl)
      have x9 : l9 = false := b9 x8
      subst x8 x9
      exact ⟨op_sa 6, [], .eff, .ptr 2 0, _, [], [], by kernel_rfl, (by kernel_rfl : stepA P G ops_sa (guards ops_sa 6) (ev_sa  a0 (.ptr 1 0) e0 e1 e2 e3 e4 e5) ((K_sa) ++ [(.box [int 0, int 0, int 0, int 0, int 0, int 0, int 0, str ByteArray.empty, bool false])]) (op_sa 6) [] = some (.eff, .ret (.ptr 2 0), ((K_sa) ++ [(.box [int 0, int 0, int 0, int 0, int 0, int 0, int 0, str ByteArray.empty, bool false]), (.box [int 0, int 0, int 0, int 0, int 0, int 0, int 0, str ByteArray.empty, bool false])]), [], [])), trivial, ⟨_, _, _, _, _, _, _, _, _, _, _, _, _, _, _, _, _, _, _, rfl, (by kernel_rfl : putA (ev_sa  a0 (.ptr 1 0) e0 e1 e2 e3 e4 e5) (op_sa 6).dst (.ptr 2 0) = (ev_sa  (.ptr 2 0) (.ptr 1 0) e0 e1 e2 e3 e4 e5)), rfl, k0, k1, k2, k3, k4, k5, fun _ => rfl, fun _ => rfl, .inr (.inr (.inr ⟨rfl, rfl, .inr ⟨rfl, rfl, rfl⟩⟩))⟩⟩
    · cases p1
  | 7, _ =>
    have hf : l7 = false := h1
    subst hf
    rcases kT with ⟨p1, q, rfl⟩ | ⟨p1, q, r, rfl⟩ | ⟨p1, q, r, rfl⟩ | ⟨p1, q, _⟩
    · exact ⟨op_sa 7, [], .eff, .ptr 1 0, _, [], [], by kernel_rfl, (by kernel_rfl : stepA P G ops_sa (guards ops_sa 7) (ev_sa  a0 a1 e0 e1 e2 e3 e4 e5) ((K_sa) ++ []) (op_sa 7) [] = some (.eff, .ret (.ptr 1 0), ((K_sa) ++ [(.box [int 0, int 0, int 0, int 0, int 0, int 0, int 0, str ByteArray.empty, bool false])]), [], [])), trivial, ⟨_, _, _, _, _, _, _, _, _, _, _, _, _, _, _, _, _, _, _, rfl, (by kernel_rfl : putA (ev_sa  a0 a1 e0 e1 e2 e3 e4 e5) (op_sa 7).dst (.ptr 1 0) = (ev_sa  a0 (.ptr 1 0) e0 e1 e2 e3 e4 e5)), rfl, k0, k1, k2, k3, k4, k5, fun _ => b8 (.inr rfl), b9, .inr (.inr (.inl ⟨p1, rfl, rfl, rfl⟩))⟩⟩
    · subst r p1
      have x8 : l8 = false := b8 (.inr rfl)
      have x9 : l9 = false := b9 x8
      subst x8 x9
      exact ⟨op_sa 7, [], .eff, .ptr 2 0, _, [], [], by kernel_rfl, (by kernel_rfl : stepA P G ops_sa (guards ops_sa 7) (ev_sa  (.ptr 1 0) a1 e0 e1 e2 e3 e4 e5) ((K_sa) ++ [(.box [int 0, int 0, int 0, int 0, int 0, int 0, int 0, str ByteArray.empty, bool false])]) (op_sa 7) [] = some (.eff, .ret (.ptr 2 0), ((K_sa) ++ [(.box [int 0, int 0, int 0, int 0, int 0, int 0, int 0, str ByteArray.empty, bool false]), (.box [int 0, int 0, int 0, int 0, int 0, int 0, int 0, str ByteArray.empty, bool false])]), [], [])), trivial, ⟨_, _, _, _, _, _, _, _, _, _, _, _, _, _, _, _, _, _, _, rfl, (by kernel_rfl : putA (ev_sa  (.ptr 1 0) a1 e0 e1 e2 e3 e4 e5) (op_sa 7).dst (.ptr 2 0) = (ev_sa  (.ptr 1 0) (.ptr 2 0) e0 e1 e2 e3 e4 e5)), rfl, k0, k1, k2, k3, k4, k5, fun _ => rfl, fun _ => rfl, .inr (.inr (.inr ⟨rfl, rfl, .inl ⟨rfl, rfl, rfl⟩⟩))⟩⟩
    · cases q
    · cases q
  | 8, _ =>
    have hf : l8 = false := h1
    subst hf
    have t6 : l6 = true := h3 6 (by decide)
    have t7 : l7 = true := h3 7 (by decide)
    obtain rfl := k2 (h3 2 (by decide))
    subst t6 t7
    rcases kT with ⟨p1, _⟩ | ⟨_, q, _⟩ | ⟨p1, _⟩ | ⟨_, _, ⟨rfl, rfl, rfl⟩ | ⟨rfl, rfl, rfl⟩⟩
    · cases p1
    · cases q
    · cases p1
    · exact ⟨op_sa 8, [], .eff, (.lit undef), _, [], [], by kernel_rfl, (by kernel_rfl : stepA P G ops_sa (guards ops_sa 8) (ev_sa  (.ptr 1 0) (.ptr 2 0) e0 e1 (cel (ceM 1 1 2 0 1 0)) e3 e4 e5) ((K_sa) ++ [(b0_sa false), (b1_sa l9)]) (op_sa 8) [] = some (.eff, .ret ((.lit undef)), ((K_sa) ++ [(b0_sa true), (b1_sa l9)]), [], [])), trivial, ⟨_, _, _, _, _, _, _, _, _, _, _, _, _, _, _, _, _, _, _, rfl, (by kernel_rfl : putA (ev_sa  (.ptr 1 0) (.ptr 2 0) e0 e1 (cel (ceM 1 1 2 0 1 0)) e3 e4 e5) (op_sa 8).dst ((.lit undef)) = (ev_sa  (.ptr 1 0) (.ptr 2 0) e0 e1 (cel (ceM 1 1 2 0 1 0)) e3 e4 e5)), rfl, k0, k1, fun _ => rfl, k3, k4, k5, fun h => (by rcases h with h | h <;> cases h), fun h => (by cases h), .inr (.inr (.inr ⟨rfl, rfl, .inl ⟨rfl, rfl, rfl⟩⟩))⟩⟩
    · exact ⟨op_sa 8, [], .eff, (.lit undef), _, [], [], by kernel_rfl, (by kernel_rfl : stepA P G ops_sa (guards ops_sa 8) (ev_sa  (.ptr 2 0) (.ptr 1 0) e0 e1 (cel (ceM 1 1 2 0 1 0)) e3 e4 e5) ((K_sa) ++ [(b1_sa l9), (b0_sa false)]) (op_sa 8) [] = some (.eff, .ret ((.lit undef)), ((K_sa) ++ [(b1_sa l9), (b0_sa true)]), [], [])), trivial, ⟨_, _, _, _, _, _, _, _, _, _, _, _, _, _, _, _, _, _, _, rfl, (by kernel_rfl : putA (ev_sa  (.ptr 2 0) (.ptr 1 0) e0 e1 (cel (ceM 1 1 2 0 1 0)) e3 e4 e5) (op_sa 8).dst ((.lit undef)) = (ev_sa  (.ptr 2 0) (.ptr 1 0) e0 e1 (cel (ceM 1 1 2 0 1 0)) e3 e4 e5)), rfl, k0, k1, fun _ => rfl, k3, k4, k5, fun h => (by rcases h with h | h <;> cases h), fun h => (by cases h), .inr (.inr (.inr ⟨rfl, rfl, .inr ⟨rfl, rfl, rfl⟩⟩))⟩⟩
  | 9, _ =>
    have hf : l9 = false := h1
    subst hf
    have t6 : l6 = true := h3 6 (by decide)
    have t7 : l7 = true := h3 7 (by decide)
    obtain rfl := k5 (h3 5 (by decide))
    subst t6 t7
    have t8 : l8 = true := h3 8 (by decide)
    subst t8
    rcases kT with ⟨p1, _⟩ | ⟨_, q, _⟩ | ⟨p1, _⟩ | ⟨_, _, ⟨rfl, rfl, rfl⟩ | ⟨rfl, rfl, rfl⟩⟩
    · cases p1
    · cases q
    · cases p1
    · exact ⟨op_sa 9, [], .eff, (.lit undef), _, [], [], by kernel_rfl, (by kernel_rfl : stepA P G ops_sa (guards ops_sa 9) (ev_sa  (.ptr 1 0) (.ptr 2 0) e0 e1 e2 e3 e4 (cel (ceM 2 1 3 0 1 0))) ((K_sa) ++ [(b0_sa true), (b1_sa false)]) (op_sa 9) [] = some (.eff, .ret ((.lit undef)), ((K_sa) ++ [(b0_sa true), (b1_sa true)]), [], [])), trivial, ⟨_, _, _, _, _, _, _, _, _, _, _, _, _, _, _, _, _, _, _, rfl, (by kernel_rfl : putA (ev_sa  (.ptr 1 0) (.ptr 2 0) e0 e1 e2 e3 e4 (cel (ceM 2 1 3 0 1 0))) (op_sa 9).dst ((.lit undef)) = (ev_sa  (.ptr 1 0) (.ptr 2 0) e0 e1 e2 e3 e4 (cel (ceM 2 1 3 0 1 0)))), rfl, k0, k1, k2, k3, k4, fun _ => rfl, kb, fun h => (by cases h), .inr (.inr (.inr ⟨rfl, rfl, .inl ⟨rfl, rfl, rfl⟩⟩))⟩⟩
    · exact ⟨op_sa 9, [], .eff, (.lit undef), _, [], [], by kernel_rfl, (by kernel_rfl : stepA P G ops_sa (guards ops_sa 9) (ev_sa  (.ptr 2 0) (.ptr 1 0) e0 e1 e2 e3 e4 (cel (ceM 2 1 3 0 1 0))) ((K_sa) ++ [(b1_sa false), (b0_sa true)]) (op_sa 9) [] = some (.eff, .ret ((.lit undef)), ((K_sa) ++ [(b1_sa true), (b0_sa true)]), [], [])), trivial, ⟨_, _, _, _, _, _, _, _, _, _, _, _, _, _, _, _, _, _, _, rfl, (by kernel_rfl : putA (ev_sa  (.ptr 2 0) (.ptr 1 0) e0 e1 e2 e3 e4 (cel (ceM 2 1 3 0 1 0))) (op_sa 9).dst ((.lit undef)) = (ev_sa  (.ptr 2 0) (.ptr 1 0) e0 e1 e2 e3 e4 (cel (ceM 2 1 3 0 1 0)))), rfl, k0, k1, k2, k3, k4, fun _ => rfl, kb, fun h => (by cases h), .inr (.inr (.inr ⟨rfl, rfl, .inr ⟨rfl, rfl, rfl⟩⟩))⟩⟩
  | n + 10, h => exact absurd h (by omega)
def Fin_sa  (env : List AV) (H : List AObj) : Prop := (env = (ev_sa  (.ptr 1 0) (.ptr 2 0) (.ptr 0 0) (ida 0 1 0) (cel (ceM 1 1 2 0 1 0)) (.ptr 0 0) (ida 0 1 0) (cel (ceM 2 1 3 0 1 0))) ∧ H = (K_sa) ++ [.box (enc (ceM 1 1 2 0 1 0)), .box (enc (ceM 2 1 3 0 1 0))]) ∨ (env = (ev_sa  (.ptr 2 0) (.ptr 1 0) (.ptr 0 0) (ida 0 1 0) (cel (ceM 1 1 2 0 1 0)) (.ptr 0 0) (ida 0 1 0) (cel (ceM 2 1 3 0 1 0))) ∧ H = (K_sa) ++ [.box (enc (ceM 2 1 3 0 1 0)), .box (enc (ceM 1 1 2 0 1 0))])
theorem end_sa  : ∀ listed env H, J_sa  listed env H → Region.ready .any ops_sa listed = [] → Fin_sa  env H := by
  intro listed env H hJ hr
  obtain ⟨l0, l1, l2, l3, l4, l5, l6, l7, l8, l9, a0, a1, e0, e1, e2, e3, e4, e5, T, rfl, rfl, rfl, k0, k1, k2, k3, k4, k5, kb, kc, kT⟩ := hJ.ex
  have hsz : ops_sa.size = 10 := by kernel_rfl
  have key := fun (i : Nat) (hi : i < 10) => none_ready (i := i) hr (by rw [hsz]; rfl) (by rw [hsz]; exact hi)
  rw [deps_sa] at key
  obtain rfl : l0 = true := key 0 (by decide) (fun j hj => by cases hj)
  obtain rfl : l1 = true := key 1 (by decide) (fun j hj => by
    have : j = 0 := by simpa using hj
    subst this; rfl)
  obtain rfl : l2 = true := key 2 (by decide) (fun j hj => by
    have : j = 1 := by simpa using hj
    subst this; rfl)
  obtain rfl : l3 = true := key 3 (by decide) (fun j hj => by cases hj)
  obtain rfl : l4 = true := key 4 (by decide) (fun j hj => by
    have : j = 3 := by simpa using hj
    subst this; rfl)
  obtain rfl : l5 = true := key 5 (by decide) (fun j hj => by
    have : j = 4 ∨ j = 2 := by simpa using hj
    rcases this with rfl | rfl <;> rfl)
  obtain rfl : l6 = true := key 6 (by decide) (fun j hj => by cases hj)
  obtain rfl : l7 = true := key 7 (by decide) (fun j hj => by cases hj)
  obtain rfl : l8 = true := key 8 (by decide) (fun j hj => by
    have : j = 6 ∨ j = 2 ∨ j = 5 ∨ j = 0 ∨ j = 1 ∨ j = 7 := by simpa using hj
    rcases this with rfl | rfl | rfl | rfl | rfl | rfl <;> rfl)
  obtain rfl : l9 = true := key 9 (by decide) (fun j hj => by
    have : j = 7 ∨ j = 5 ∨ j = 8 ∨ j = 0 ∨ j = 1 ∨ j = 2 ∨ j = 3 ∨ j = 4 ∨ j = 6 := by simpa using hj
    rcases this with rfl | rfl | rfl | rfl | rfl | rfl | rfl | rfl | rfl <;> rfl)
  obtain rfl := k0 rfl
  obtain rfl := k1 rfl
  obtain rfl := k2 rfl
  obtain rfl := k3 rfl
  obtain rfl := k4 rfl
  obtain rfl := k5 rfl
  rcases kT with ⟨p1, _⟩ | ⟨_, q, _⟩ | ⟨p1, _⟩ | ⟨_, _, ⟨rfl, rfl, rfl⟩ | ⟨rfl, rfl, rfl⟩⟩
  · cases p1
  · cases q
  · cases p1
  · exact .inl ⟨rfl, rfl⟩
  · exact .inr ⟨rfl, rfl⟩
theorem reg2_sa   : RunC P G none 0 (regAt P 11 0) ⟨slots 166 [(0, bool false), (1, .ptr 0 0)], (K_sa), []⟩ .normal ⟨slots 166 [(0, bool false), (1, .ptr 0 0), (2, .ptr 1 0), (3, .ptr 2 0)], (K_sa) ++ [.box (enc (ceM 1 1 2 0 1 0)), .box (enc (ceM 2 1 3 0 1 0))], []⟩ := by
  intro V0 V a h0 hs hG hok
  rw [reg_sa]
  refine region_family (J_sa ) (Fin_sa ) (step_sa ) (end_sa ) (s := ⟨slots 166 [(0, bool false), (1, .ptr 0 0)], (K_sa), []⟩) ?_ (by kernel_rfl) hG hok fun V2 a2 env2 H2 s2 g2 k2 f2 => ?_
  · exact ⟨_, _, _, _, _, _, _, _, _, _, _, _, _, _, _, _, _, _, [], (by kernel_rfl : Array.replicate ops_sa.size false = #[false, false, false, false, false, false, false, false, false, false]), (by kernel_rfl : slots 166 [(0, bool false), (1, .ptr 0 0)] = (ev_sa  (.dead) (.dead) (.dead) (.dead) (.dead) (.dead) (.dead) (.dead))), rfl, fun h => (by cases h), fun h => (by cases h), fun h => (by cases h), fun h => (by cases h), fun h => (by cases h), fun h => (by cases h), fun _ => rfl, fun _ => rfl, .inl ⟨rfl, rfl, rfl⟩⟩
  · have hdull : ∀ {V : View} {a : Act}, EnvOk V (ev_sa  (.ptr 1 0) (.ptr 2 0) (.ptr 0 0) (ida 0 1 0) (cel (ceM 1 1 2 0 1 0)) (.ptr 0 0) (ida 0 1 0) (cel (ceM 2 1 3 0 1 0))) a → EnvOk V (slots 166 [(0, bool false), (1, .ptr 0 0), (2, .ptr 1 0), (3, .ptr 2 0)]) a := fun {V a} h => by
      have := deaden_ok (ts := [21, 22, 23, 24, 25, 26]) h
      exact this
    rcases f2 with ⟨rfl, rfl⟩ | ⟨rfl, rfl⟩
    · exact ⟨V2, rfl, hs.trans s2, g2, ⟨hdull k2.env, k2.H, k2.defs⟩, trivial⟩
    · have hn : V0.H.length ≤ ((K_sa)).length := by rw [h0]; show 0 ≤ 1; decide
      obtain ⟨V3, e1, e2, e3, e4, e5⟩ := two_swap (oA := .box (enc (ceM 1 1 2 0 1 0))) (oB := .box (enc (ceM 2 1 3 0 1 0))) (hs.trans s2) hn g2 k2.H (fun o ho => by
        have : o ∈ [.box (enc (ceM 0 1 1 0 0 0))] := ho
        simp only [List.mem_cons, List.not_mem_nil, or_false] at this
        subst this; rfl) (by show AV.idsLtL _ _ = true; kernel_rfl) (by show AV.idsLtL _ _ = true; kernel_rfl) (envA := (ev_sa  (.ptr 1 0) (.ptr 2 0) (.ptr 0 0) (ida 0 1 0) (cel (ceM 1 1 2 0 1 0)) (.ptr 0 0) (ida 0 1 0) (cel (ceM 2 1 3 0 1 0)))) k2.env (by kernel_rfl) (by kernel_rfl)
      rw [← e1]
      exact ⟨V3, rfl, e2, e3, ⟨hdull e5, e4, e2_defs k2.defs⟩, trivial⟩
end Go.Sq

/- SEQUENCE, 33: sane. -/
namespace Go.Sq
open Go Go.Am Go.Proofs Go.Seat

def ca : CE := ceM 0 1 1 0 0 0
def cb : CE := ceM 1 1 2 0 1 0
def cc : CE := ceM 2 1 3 0 1 0
def cg : CE := { ca with gn := true }
def cd : CE := ceM 3 1 9 0 1 0
def cu : CE := ceM 0 1 1 1 1 0
def cv : CE := ceM 1 1 2 0 0 0
theorem okr_all (l : List CE) (h : (l.all fun x => decide (-9223372036854775808 ≤ x.dv ∧ x.dv < 9223372036854775808 ∧ -9223372036854775808 ≤ x.sq ∧ x.sq < 9223372036854775808 ∧ -9223372036854775808 ≤ x.at' ∧ x.at' < 9223372036854775808 ∧ -9223372036854775808 ≤ x.ad ∧ x.ad < 9223372036854775808 ∧ -9223372036854775808 ≤ x.as' ∧ x.as' < 9223372036854775808 ∧ -9223372036854775808 ≤ x.aa ∧ x.aa < 9223372036854775808)) = true) : OkRs l := fun x hx => by
  have := List.all_eq_true.1 h x hx
  simp only [decide_eq_true_eq] at this
  unfold OkR InR
  omega
theorem sn_1 : CallC P G 13 [ces [ca, cb, cc]] [] (.ret (.tup [ces [ca, cc, cb], int 0])) [] := order_c [ca, cb, cc] (by decide) (okr_all _ (by decide))
theorem sn_2 : CallC P G 13 [ces [cu, cb]] [] (.ret (.tup [ces [], int 130])) [] := order_c [cu, cb] (by decide) (okr_all _ (by decide))
theorem sn_3 : CallC P G 20 [nilS, ida 0 1 0] [] (.ret (.tup [ces [], int 130])) [] := (era_c [] 0 1 0 (by decide) (okr_all _ (by decide))).args rfl fun j hj => by
  have : j < 2 := hj
  match j, this with
  | 0, _ => exact Sub.emptyL 9 none 0
  | 1, _ => exact Sub.refl _
theorem sn_4 : CallC P G 20 [ces [ca, cc, cb], ida 0 1 0] [] (.ret (.tup [ces [cg, cc, cb], int 0])) [] := era_c [ca, cc, cb] 0 1 0 (by decide) (okr_all _ (by decide))
theorem sn_5 : CallC P G 18 [ces [cg, cc, cb], cel cd] [] (.ret (.tup [ces [cg, cd, cc, cb], int 0])) [] := ins_c [cg, cc, cb] cd (by decide) (okr_all _ (by decide)) (okr_all [cd] (by decide) cd (by simp))
theorem sn_6 : CallC P G 13 [ces [ca, cv]] [] (.ret (.tup [ces [cv, ca], int 0])) [] := order_c [ca, cv] (by decide) (okr_all _ (by decide))
theorem sn_7 : CallC P G 22 [ces [cg, cd, cc, cb], ida 2 1 0] [] (.ret (.tup [int 2, bool true])) [] := find_c [cg, cd, cc, cb] 2 1 0 (by decide)
theorem sn_8 : CallC P G 15 [ces [ca, cc, cb], ces [ca, cc, cb]] [] (.ret (bool true)) [] := rsame_c [ca, cc, cb] [ca, cc, cb] (by decide) (by decide)
theorem sn_9 : CallC P G 16 [ces [cg, cd, cc, cb]] [] (.ret (int 0)) [] := chk_c [cg, cd, cc, cb] (by decide) (okr_all _ (by decide))
theorem sn_10 : CallC P G 16 [ces [ca, cb, cc]] [] (.ret (int 130)) [] := chk_c [ca, cb, cc] (by decide) (okr_all _ (by decide))
end Go.Sq

/- SEQUENCE, 34: sane, walked. -/
namespace Go.Sq
open Go Go.Am Go.Proofs Go.Seat

theorem sn_11 : CallC P G 25 [ces [cg, cd, cc, cb]] [] (.ret (strs [xs1, xs1, xs1])) [] := vis_c [cg, cd, cc, cb] (by decide)

theorem sane_w  (h : True) : CallC P G 11 [] [] (AOut.ret (Am.bool true)) [] := by
  have hz0 := (@Go.Sq.cell_c (0) (1) (1) (0) (0) (0) (trivial))
  have _ := h
  exact callC_of [kc [] hz0, kr [2, 3, 4, 5, 6, 7, 8, 9, 10, 11, 12, 13, 14, 15, 16, 17, 18, 19, 20, 21, 22, 23, 24, 25, 26, 27, 28, 29, 30, 31, 32, 33, 34, 35, 36, 37, 38, 39, 40, 41, 42, 43, 44, 45, 46, 47, 48, 49, 50, 51, 52, 53, 54, 55, 56, 57, 58, 59, 60, 61, 62, 63, 64, 65, 66, 67, 68, 69, 70, 71, 72, 73, 74, 75, 76, 77, 78, 79, 80, 81, 82, 83, 84, 85, 86, 87, 88, 89, 90, 91, 92, 93, 94, 95, 96, 97, 98, 99, 100, 101, 102, 103, 104, 105, 106, 107, 108, 109, 110, 111, 112, 113, 114, 115, 116, 117, 118, 119, 120, 121, 122, 123, 124, 125, 126, 127, 128, 129, 130, 131, 132, 133, 134, 135, 136, 137, 138, 139, 140, 141, 142, 143, 144, 145, 146, 147, 148, 149, 150, 151, 152, 153, 154, 155, 156, 157, 158, 159, 160, 161, 162, 163, 164, 165] 1 (@Go.Sq.reg2_sa ), kc [] (show CallC P G 13 [AV.sl 9 true [[int 0, int 1, int 0, int 0, int 0, int 0, int 1, str (CE.vl (ceM 0 1 1 0 0 0)), Am.bool false], [int 1, int 1, int 0, int 0, int 1, int 0, int 2, str (CE.vl (ceM 1 1 2 0 1 0)), Am.bool false], [int 2, int 1, int 0, int 0, int 1, int 0, int 3, str (CE.vl (ceM 2 1 3 0 1 0)), Am.bool false]]] [] (AOut.ret (AV.tup [AV.sl 9 false [[int 0, int 1, int 0, int 0, int 0, int 0, int 1, str (CE.vl ca), Am.bool false], [int 2, int 1, int 0, int 0, int 1, int 0, int 3, str (CE.vl cc), Am.bool false], [int 1, int 1, int 0, int 0, int 1, int 0, int 2, str (CE.vl cb), Am.bool false]], int 0])) [] from (CallC.args' (@Go.Sq.sn_1 ) ⟨Sub.loose _ _ _, trivial⟩)), kc [] (@Go.Sq.cell_c (0) (1) (1) (1) (1) (0) (trivial)), kc [] (@Go.Sq.cell_c (1) (1) (2) (0) (1) (0) (trivial)), kc [] (show CallC P G 13 [AV.sl 9 true [[int 0, int 1, int 0, int 1, int 1, int 0, int 1, str (CE.vl (ceM 0 1 1 1 1 0)), Am.bool false], [int 1, int 1, int 0, int 0, int 1, int 0, int 2, str (CE.vl (ceM 1 1 2 0 1 0)), Am.bool false]]] [] (AOut.ret (AV.tup [AV.sl 9 false [], int 130])) [] from (CallC.args' (@Go.Sq.sn_2 ) ⟨Sub.loose _ _ _, trivial⟩)), kc [] (@Go.Sq.sn_3 ), kc [] (@Go.Sq.sn_4 ), kc [] (@Go.Sq.cell_c (3) (1) (9) (0) (1) (0) (trivial)), kc [] (@Go.Sq.sn_5 ), kc [] hz0, kc [] (@Go.Sq.cell_c (1) (1) (2) (0) (0) (0) (trivial)), kc [] (show CallC P G 13 [AV.sl 9 true [[int 0, int 1, int 0, int 0, int 0, int 0, int 1, str (CE.vl (ceM 0 1 1 0 0 0)), Am.bool false], [int 1, int 1, int 0, int 0, int 0, int 0, int 2, str (CE.vl (ceM 1 1 2 0 0 0)), Am.bool false]]] [] (AOut.ret (AV.tup [AV.sl 9 false [[int 1, int 1, int 0, int 0, int 0, int 0, int 2, str (CE.vl cv), Am.bool false], [int 0, int 1, int 0, int 0, int 0, int 0, int 1, str (CE.vl ca), Am.bool false]], int 0])) [] from (CallC.args' (@Go.Sq.sn_6 ) ⟨Sub.loose _ _ _, trivial⟩)), kc [] (@Go.Sq.sn_7 ), kt (Eq.refl true), kc [] (show CallC P G 15 [AV.sl 9 false [[int 0, int 1, int 0, int 0, int 0, int 0, int 1, str (CE.vl ca), Am.bool false], [int 2, int 1, int 0, int 0, int 1, int 0, int 3, str (CE.vl cc), Am.bool false], [int 1, int 1, int 0, int 0, int 1, int 0, int 2, str (CE.vl cb), Am.bool false]], AV.sl 9 true [[int 0, int 1, int 0, int 0, int 0, int 0, int 1, str (CE.vl (ceM 0 1 1 0 0 0)), Am.bool false], [int 2, int 1, int 0, int 0, int 1, int 0, int 3, str (CE.vl (ceM 2 1 3 0 1 0)), Am.bool false], [int 1, int 1, int 0, int 0, int 1, int 0, int 2, str (CE.vl (ceM 1 1 2 0 1 0)), Am.bool false]]] [] (AOut.ret (Am.bool true)) [] from (CallC.args' (@Go.Sq.sn_8 ) ⟨Sub.refl _, Sub.loose _ _ _, trivial⟩)), kt (Eq.refl true), kt (Eq.refl true), kt (Eq.refl true), kt (Eq.refl true), kt (Eq.refl true), kt (Eq.refl true), ko (Orc.elem [int 3, int 1, int 0, int 0, int 1, int 0, int 9, str (CE.vl cd), Am.bool false]), kp (show (0 : Int) ≤ (1 : Int) ∧ (encs [cg, cd, cc, cb])[Int.toNat 1]? = some [int 3, int 1, int 0, int 0, int 1, int 0, int 9, str (CE.vl cd), Am.bool false] from (⟨by decide, rfl⟩)), kt (Eq.refl true), kt (Eq.refl true), kt (Eq.refl true), ko (Orc.elem [int 1, int 1, int 0, int 0, int 0, int 0, int 2, str (CE.vl cv), Am.bool false]), kp (show (0 : Int) ≤ (0 : Int) ∧ (encs [cv, ca])[Int.toNat 0]? = some [int 1, int 1, int 0, int 0, int 0, int 0, int 2, str (CE.vl cv), Am.bool false] from (⟨by decide, rfl⟩)), kt (Eq.refl true), kt (Eq.refl true), kt (Eq.refl true), kc [] (@Go.Sq.sn_11 ), kt (Eq.refl true), kc [] (@Go.Sq.sn_9 ), kt (Eq.refl true), kc [] (show CallC P G 16 [AV.sl 9 true [[int 0, int 1, int 0, int 0, int 0, int 0, int 1, str (CE.vl (ceM 0 1 1 0 0 0)), Am.bool false], [int 1, int 1, int 0, int 0, int 1, int 0, int 2, str (CE.vl (ceM 1 1 2 0 1 0)), Am.bool false], [int 2, int 1, int 0, int 0, int 1, int 0, int 3, str (CE.vl (ceM 2 1 3 0 1 0)), Am.bool false]]] [] (AOut.ret (int 130)) [] from (CallC.args' (@Go.Sq.sn_10 ) ⟨Sub.loose _ _ _, trivial⟩))] (by kernel_rfl)

end Go.Sq

/- SEQUENCE, 35: the laws OrderSpec and FindSpec, walked. -/
namespace Go.Sq
open Go Go.Am Go.Proofs Go.Seat

theorem sane_c : CallC P G 11 [] [] (.ret (bool true)) [] := sane_w trivial

end Go.Sq

/- SEQUENCE, 36: the law InsertSpec, walked. -/
namespace Go.Sq
open Go Go.Am Go.Proofs Go.Seat

end Go.Sq

/- SEQUENCE, 37: OrderSpec, InsertSpec, FindSpec. -/
namespace Go.Sq
open Go Go.Am Go.Proofs Go.Seat

end Go.Sq

/- SEQUENCE, 38: the statements' arguments as data. -/
namespace Go.Sq
open Go Go.Am Go.Proofs Go.Seat

theorem cz3 : Try.prog.cellsOf 3 = 1 := by kernel_rfl
theorem cz4 : Try.prog.cellsOf 4 = 1 := by kernel_rfl
theorem cz9 : Try.prog.cellsOf 9 = 1 := by kernel_rfl
theorem cz22 : Try.prog.cellsOf 22 = 1 := by kernel_rfl
theorem cz31 : Try.prog.cellsOf 31 = 3 := by kernel_rfl
theorem cz33 : Try.prog.cellsOf 33 = 9 := by kernel_rfl
noncomputable def cInt : Cod Try.prog 3 Int := Cod.int Try.underlying3 cz3
noncomputable def cStr : Cod Try.prog 9 ByteArray := Cod.str Try.underlying9 cz9
noncomputable def cBool : Cod Try.prog 4 Bool := Cod.bool Try.underlying4 cz4
noncomputable def cID : Cod Try.prog 31 (Int × Int × Int) := Cod.struct Try.underlying31 (by kernel_rfl) (FCod.cons cInt rfl (FCod.cons cInt (by kernel_rfl) (FCod.cons cInt (by kernel_rfl) FCod.nil))) (fun a => (a.1, a.2.1, a.2.2.1)) (fun a => [Am.int a.1, Am.int a.2.1, Am.int a.2.2]) (fun _ => rfl) (fun _ => cz31.symm)
abbrev AC := (Int × Int × Int) × (Int × Int × Int) × Int × ByteArray × Bool × Unit
noncomputable def cCE : Cod Try.prog 33 CE := Cod.struct Try.underlying33 (by kernel_rfl) (FCod.cons cID rfl (FCod.cons cID (by kernel_rfl) (FCod.cons cInt (by kernel_rfl) (FCod.cons cStr (by kernel_rfl) (FCod.cons cBool (by kernel_rfl) FCod.nil)))))
  (fun a : AC => ⟨a.1.1, a.1.2.1, a.1.2.2, a.2.1.1, a.2.1.2.1, a.2.1.2.2, a.2.2.1, a.2.2.2.1, a.2.2.2.2.1⟩) enc (fun a : AC => rfl) (fun _ => cz33.symm)
noncomputable def cCells : Cod Try.prog 22 (List CE) := Cod.slice Try.underlying22 cz22 (by rw [cz33]; decide) cCE
theorem cCells_enc (v : List CE) : cCells.enc v = [ces v] := by
  show [AV.sl (Try.prog.cellsOf 33) false (v.map enc)] = [AV.sl 9 false (v.map enc)]
  rw [cz33]
theorem cID_ok {i : Int × Int × Int} (h : cID.good i) : InR i.1 ∧ InR i.2.1 ∧ InR i.2.2 := by
  obtain ⟨⟨_, _, _, _⟩, rfl, f1, f2, f3, _⟩ := h
  exact ⟨f1, f2, f3⟩
theorem cCE_ok {c : CE} (h : cCE.good c) : OkR c := by
  obtain ⟨⟨_, _, _, _, _, _⟩, rfl, f1, f2, _⟩ := h
  exact ⟨cID_ok f1, cID_ok f2⟩
theorem reads_cells {H : Type} {enc : TypeId × Value → H} {W : World} {base : Nat} {v : Value} {d : DataW H} {ps : List MemPlace} (hv : Value.okWide Try.prog W .any base 22 v) (h : DataW.Trod enc Try.prog W 0 (fun _ => true) true 22 v d ps) : ∃ l : List CE, OkRs l ∧ Rep (view0 W) (ces l) v := by
  obtain ⟨a, h1, h2⟩ := cCells.one (by kernel_rfl) hv h cCells_enc
  exact ⟨a, fun x hx => cCE_ok (h1.2 x hx), h2⟩
end Go.Sq

/- SEQUENCE, 39: the laws, as they are closed. -/
namespace Go.Sq
open Go Go.Am Go.Proofs Go.Seat

end Go.Sq

/- SEQUENCE, 40: what Order answers depends on the set of cells alone. -/
namespace Go.Sq
open Go Go.Am

theorem all_is {l : List CE} (h : formsB l = true) : (all l).Perm l := by
  obtain ⟨h1, h2⟩ := forms_iff.1 h
  refine (List.perm_ext_iff_of_nodup (all_nodup h1) h1.nodup).2 fun x => ?_
  rw [mem_all h1]
  exact ⟨fun h => h.1, fun h => ⟨h, h2 x h⟩⟩
theorem forms_or (l : List CE) : formsB l = true ∧ ordE l = 0 ∧ ordV l = all l ∨ formsB l = false ∧ ordE l = 130 ∧ ordV l = [] := by
  unfold ordE ordV
  cases h : formsB l
  · right; exact ⟨rfl, rfl, rfl⟩
  · left; exact ⟨rfl, rfl, rfl⟩
/-! Turned -/
end Go.Sq

/- SEQUENCE, 44: a cell more in a list. -/
namespace Go.Sq
open Go Go.Am

theorem flt_flatMap {α β : Type} (p : β → Bool) (f : α → List β) : ∀ l : List α, (l.flatMap f).filter p = l.flatMap fun x => (f x).filter p
  | [] => rfl
  | x :: l => by rw [List.flatMap_cons, List.filter_append, flt_flatMap p f l, List.flatMap_cons]
theorem flatMap_congr' {α β : Type} {f g : α → List β} : ∀ {l : List α}, (∀ x ∈ l, f x = g x) → l.flatMap f = l.flatMap g
  | [], _ => rfl
  | x :: l, h => by rw [List.flatMap_cons, List.flatMap_cons, h x (by simp), flatMap_congr' fun y hy => h y (List.mem_cons_of_mem _ hy)]
structure More (l : List CE) (c : CE) : Prop where
  fl : formsB l = true
  fm : formsB (l ++ [c]) = true
theorem More.ok {l : List CE} {c : CE} (h : More l c) : Ok l := (forms_iff.1 h.fl).1
theorem More.okm {l : List CE} {c : CE} (h : More l c) : Ok (l ++ [c]) := (forms_iff.1 h.fm).1
theorem More.ne {l : List CE} {c : CE} (h : More l c) : ∀ y ∈ l, y.id ≠ c.id := fun y hy e => by
  have := (List.pairwise_append.1 h.okm.ids).2.2 y hy c (by simp)
  exact this e
theorem More.leaf {l : List CE} {c : CE} (h : More l c) : ∀ y ∈ l ++ [c], y.after ≠ c.id := fun y hy e => by
  have hc0 := h.okm.id0 (x := c) (by simp)
  rcases List.mem_append.1 hy with hy | hy
  · obtain ⟨n, hn⟩ := (forms_iff.1 h.fl).2 y hy
    cases n with
    | zero => exact hc0 (e.symm.trans hn)
    | succ n =>
      obtain ⟨p, hp, e', _⟩ := hn
      exact h.ne p hp (e'.trans e)
  · rw [List.mem_singleton.1 hy] at e
    obtain ⟨n, hn⟩ := (forms_iff.1 h.fm).2 c (by simp)
    cases n with
    | zero => exact hc0 (e.symm.trans hn)
    | succ n =>
      have hn' := hn
      obtain ⟨p, hp, e', hl⟩ := hn
      have : p = c := h.okm.one hp (by simp) (e'.trans e)
      rw [this] at hl
      have := lvl_one h.okm hl hn'
      omega
theorem More.kids {l : List CE} {c : CE} (h : More l c) (i j k : Int) : Sq.kids (l ++ [c]) i j k = if c.after = (i, j, k) then ins c (Sq.kids l i j k) else Sq.kids l i j k := by
  split
  · rename_i e
    refine (kids_desc h.okm.ids i j k).ext (ins_desc (kids_desc h.ok.ids i j k) fun y hy => h.ne y ((mem_kids h.ok.ids).1 hy).1) fun x => ?_
    rw [mem_kids h.okm.ids, mem_ins, mem_kids h.ok.ids, List.mem_append, List.mem_singleton]
    constructor
    · rintro ⟨h1 | rfl, h2⟩
      · exact .inr ⟨h1, h2⟩
      · exact .inl rfl
    · rintro (rfl | ⟨h1, h2⟩)
      · exact ⟨.inr rfl, e⟩
      · exact ⟨.inl h1, h2⟩
  · rename_i e
    refine (kids_desc h.okm.ids i j k).ext (kids_desc h.ok.ids i j k) fun x => ?_
    rw [mem_kids h.okm.ids, mem_kids h.ok.ids, List.mem_append, List.mem_singleton]
    constructor
    · rintro ⟨h1 | rfl, h2⟩
      · exact ⟨h1, h2⟩
      · exact absurd h2 e
    · rintro ⟨h1, h2⟩
      exact ⟨.inl h1, h2⟩
theorem More.nokids {l : List CE} {c : CE} (h : More l c) : Sq.kids (l ++ [c]) c.dv c.sq c.at' = [] := by
  cases hk : Sq.kids (l ++ [c]) c.dv c.sq c.at' with
  | nil => rfl
  | cons y r =>
    have hy : y ∈ Sq.kids (l ++ [c]) c.dv c.sq c.at' := by rw [hk]; simp
    obtain ⟨h1, h2⟩ := (mem_kids h.okm.ids).1 hy
    exact absurd h2 (h.leaf y h1)
def notC (c : CE) (z : CE) : Bool := decide (z.id ≠ c.id)
theorem More.below {l : List CE} {c : CE} (h : More l c) : ∀ n i j k, (belowF (l ++ [c]) n i j k).filter (notC c) = belowF l n i j k
  | 0, _, _, _ => rfl
  | n + 1, i, j, k => by
    rw [belowF, belowF, flt_flatMap, h.kids]
    have hc : ((c :: belowF (l ++ [c]) n c.dv c.sq c.at').filter (notC c)) = [] := by
      have : belowF (l ++ [c]) n c.dv c.sq c.at' = [] := by
        cases n with
        | zero => rfl
        | succ n => rw [belowF, h.nokids]; rfl
      rw [this]
      simp [notC]
    have hy : ∀ y ∈ l, ((y :: belowF (l ++ [c]) n y.dv y.sq y.at').filter (notC c)) = y :: belowF l n y.dv y.sq y.at' := fun y hy => by
      rw [List.filter_cons, if_pos (by simp [notC, h.ne y hy]), h.below n]
    have hks : ∀ y ∈ Sq.kids l i j k, y ∈ l := fun y hy => ((mem_kids h.ok.ids).1 hy).1
    split
    · have e := List.takeWhile_append_dropWhile (p := fun y => gtB y c) (l := Sq.kids l i j k)
      unfold ins
      rw [List.flatMap_append, List.flatMap_cons, hc, List.nil_append, ← List.flatMap_append, e]
      exact flatMap_congr' fun y hm => hy y (hks y hm)
    · exact flatMap_congr' fun y hm => hy y (hks y hm)
theorem fI_skip {p : CE → Bool} {v : List CE} : ∀ {n k j : Nat}, j < n → k + n = v.length → (∀ i, i < j → ∀ x, v[k + i]? = some x → p x = false) → (∀ x, v[k + j]? = some x → p x = true) → fI p v n k = some (k + j)
  | 0, _, _, h, _, _, _ => by omega
  | n + 1, k, j, h, hk, h1, h2 => by
    have hlt : k < v.length := by omega
    have hv : v[k]? = some v[k] := List.getElem?_eq_getElem hlt
    cases j with
    | zero => exact fI_yes hv (h2 _ hv)
    | succ j =>
      rw [fI_no hv (h1 0 (by omega) _ hv), fI_skip (j := j) (by omega) (by omega) (fun i hi x hx => h1 (i + 1) (by omega) x (by rw [← hx]; congr 1; omega)) fun x hx => h2 x (by rw [← hx]; congr 1; omega)]
      congr 1
      omega
theorem fX_at {p q : List CE} {c : CE} {i j k : Int} (hc : c.id = (i, j, k)) (hp : ∀ y ∈ p, y.id ≠ (i, j, k)) : fX (pid i j k) (p ++ c :: q) = some p.length := by
  unfold fX
  have := fI_skip (p := pid i j k) (v := p ++ c :: q) (n := (p ++ c :: q).length) (k := 0) (j := p.length) (by simp) (by simp) (fun m hm x hx => ?_) fun x hx => ?_
  · rw [this, Nat.zero_add]
  · rw [Nat.zero_add, List.getElem?_append_left hm] at hx
    rw [Bool.eq_false_iff]
    intro h
    exact hp x (List.mem_of_getElem? hx) (pid_iff.1 h)
  · rw [Nat.zero_add, List.getElem?_append_right (Nat.le_refl _)] at hx
    simp only [Nat.sub_self, List.getElem?_cons_zero, Option.some.injEq] at hx
    rw [← hx]
    exact pid_iff.2 hc
end Go.Sq

/- SEQUENCE, 50: cells that are erased (plain). -/
namespace Go.Sq
open Go Go.Am

structure Alike (g : CE → CE) : Prop where
  dv : ∀ x, (g x).dv = x.dv
  sq : ∀ x, (g x).sq = x.sq
  at' : ∀ x, (g x).at' = x.at'
  ad : ∀ x, (g x).ad = x.ad
  as' : ∀ x, (g x).as' = x.as'
  aa : ∀ x, (g x).aa = x.aa
  tm : ∀ x, (g x).tm = x.tm
  vl : ∀ x, (g x).vl = x.vl
section
variable {g : CE → CE} (h : Alike g)
 include h
theorem Alike.id (x : CE) : (g x).id = x.id := by simp only [CE.id, h.dv, h.sq, h.at']
theorem Alike.after (x : CE) : (g x).after = x.after := by simp only [CE.after, h.ad, h.as', h.aa]
theorem Alike.valid (x : CE) : validB (g x) = validB x := by simp only [validB, h.dv, h.sq, h.at', h.ad, h.as', h.aa, h.tm, h.vl]
theorem Alike.gt (x y : CE) : gtB (g x) (g y) = gtB x y := by simp only [gtB, h.dv, h.sq, h.at', h.tm]
theorem Alike.clash (x y : CE) : Sq.clash (g x) (g y) = Sq.clash x y := by simp only [Sq.clash, h.dv, h.sq, h.at', h.tm]
theorem Alike.ok {l : List CE} : Ok (l.map g) ↔ Ok l := by
  constructor
  · intro k
    refine ⟨fun x hx => ?_, ?_⟩
    · rw [← h.valid]; exact k.valid _ (List.mem_map.2 ⟨x, hx, rfl⟩)
    · have := List.pairwise_map.1 k.apart
      exact this.imp fun {a b} q => by rw [h.clash] at q; exact q
  · intro k
    refine ⟨fun x hx => ?_, ?_⟩
    · obtain ⟨y, hy, rfl⟩ := List.mem_map.1 hx
      rw [h.valid]; exact k.valid y hy
    · exact List.pairwise_map.2 (k.apart.imp fun {a b} q => by rw [h.clash]; exact q)
theorem Alike.lvl {l : List CE} : ∀ {n : Nat} {c : CE}, Sq.lvl (l.map g) n (g c) ↔ Sq.lvl l n c
  | 0, c => by show (g c).after = _ ↔ _; rw [h.after]; rfl
  | n + 1, c => by
    constructor
    · rintro ⟨p, hp, e, k⟩
      obtain ⟨q, hq, rfl⟩ := List.mem_map.1 hp
      rw [h.id, h.after] at e
      exact ⟨q, hq, e, Alike.lvl.1 k⟩
    · rintro ⟨p, hp, e, k⟩
      exact ⟨g p, List.mem_map.2 ⟨p, hp, rfl⟩, by rw [h.id, h.after]; exact e, Alike.lvl.2 k⟩
theorem Alike.kids {l : List CE} (hl : Ids l) (i j k : Int) : Sq.kids (l.map g) i j k = (Sq.kids l i j k).map g := by
  have hm : Ids (l.map g) := List.pairwise_map.2 (hl.imp fun {a b} q => by rw [h.id, h.id]; exact q)
  refine (kids_desc hm i j k).ext (List.pairwise_map.2 ((kids_desc hl i j k).imp fun {a b} q => by rw [h.gt]; exact q)) fun x => ?_
  rw [mem_kids hm, List.mem_map, List.mem_map]
  constructor
  · rintro ⟨⟨y, hy, rfl⟩, e⟩
    rw [h.after] at e
    exact ⟨y, (mem_kids hl).2 ⟨hy, e⟩, rfl⟩
  · rintro ⟨y, hy, rfl⟩
    obtain ⟨k1, k2⟩ := (mem_kids hl).1 hy
    exact ⟨⟨y, k1, rfl⟩, by rw [h.after]; exact k2⟩
theorem Alike.below {l : List CE} (hl : Ids l) : ∀ n i j k, belowF (l.map g) n i j k = (belowF l n i j k).map g
  | 0, _, _, _ => rfl
  | n + 1, i, j, k => by
    rw [belowF, belowF, h.kids hl, List.map_flatMap, List.flatMap_map]
    refine flatMap_congr' fun y _ => ?_
    rw [h.dv, h.sq, h.at', Alike.below hl n, List.map_cons]
theorem Alike.all {l : List CE} (hl : Ids l) : Sq.all (l.map g) = (Sq.all l).map g := by
  unfold Sq.all
  rw [h.below hl, List.length_map]
end
end Go.Sq

/- SEQUENCE, 66: Below, plain: where a cell stands, and what stands between it and its parent. -/
namespace Go.Sq
open Go Go.Am

abbrev Ahead (l : List CE) (u : List CE) (z : CE) : Prop := ∃ u1 p u2, u = u1 ++ p :: u2 ∧ p ∈ l ∧ p.id = z.after ∧ ∀ x ∈ u2, (∃ k, Anc l k x p) ∧ (x.after = z.after → gtB x z = true)

theorem ahead_cons {l u : List CE} {z : CE} (w : List CE) (h : Ahead l u z) : Ahead l (w ++ u) z := by
  obtain ⟨u1, p, u2, rfl, h⟩ := h
  exact ⟨w ++ u1, p, u2, by simp, h⟩

theorem flat_split {l : List CE} (h : Ok l) {n m : Nat} {a b c : Int} (hm : ∀ y ∈ kids l a b c, lvl l m y)
    (ih : ∀ y ∈ kids l a b c, ∀ {u v : List CE} {z : CE}, belowF l n y.dv y.sq y.at' = u ++ z :: v → (z.after = y.id ∧ ∀ x ∈ u, x.after = z.after → gtB x z = true) ∨ Ahead l u z) :
    ∀ (ys : List CE), (∀ y ∈ ys, y ∈ kids l a b c) → Desc ys → ∀ {u v : List CE} {z : CE}, (ys.flatMap fun y => y :: belowF l n y.dv y.sq y.at') = u ++ z :: v → (z ∈ ys ∧ ∀ x ∈ u, x.after = (a, b, c) → gtB x z = true) ∨ Ahead l u z
  | [], _, _, u, v, z, e => by cases u <;> cases e
  | y :: r, hk, hd, u, v, z, e => by
    rw [List.flatMap_cons, List.cons_append] at e
    have hy := hk y List.mem_cons_self
    have hyl := ((mem_kids h.ids).1 hy).1
    cases u with
    | nil =>
      injection e with e1 _
      exact .inl ⟨e1 ▸ List.mem_cons_self, fun x hx => by cases hx⟩
    | cons u0 u' =>
      injection e with e0 e
      subst e0
      have rek : ∀ a', (r.flatMap fun y => y :: belowF l n y.dv y.sq y.at') = a' ++ z :: v → (z ∈ y :: r ∧ ∀ x ∈ y :: (belowF l n y.dv y.sq y.at' ++ a'), x.after = (a, b, c) → gtB x z = true) ∨ Ahead l (y :: (belowF l n y.dv y.sq y.at' ++ a')) z := fun a' e' => by
        rcases flat_split h hm ih r (fun x hx => hk x (List.mem_cons_of_mem _ hx)) (List.pairwise_cons.1 hd).2 e' with ⟨h1, h2⟩ | h1
        · refine .inl ⟨List.mem_cons_of_mem _ h1, fun x hx hxa => ?_⟩
          rcases List.mem_cons.1 hx with rfl | hx
          · exact (List.pairwise_cons.1 hd).1 z h1
          · rcases List.mem_append.1 hx with hx | hx
            · exfalso
              obtain ⟨k, hA⟩ := below_anc h.ids hyl hx
              have l1 := hA.lvl (hm y hy)
              have l2 := hm x ((mem_kids h.ids).2 ⟨below_in h.ids hx, hxa⟩)
              have := lvl_one h l1 l2
              omega
            · exact h2 x hx hxa
        · have := ahead_cons (y :: belowF l n y.dv y.sq y.at') h1
          exact .inr (by simpa using this)
      rcases List.append_eq_append_iff.1 e with ⟨a', rfl, e'⟩ | ⟨c', e1, e2⟩
      · exact rek a' e'
      · cases c' with
        | nil =>
          rw [List.append_nil] at e1
          have := rek [] (by simpa using e2.symm)
          rw [List.append_nil, e1] at this
          exact this
        | cons c0 c' =>
          injection e2 with e2 _
          subst e2
          right
          rcases ih y hy e1 with ⟨h1, h2⟩ | h1
          · exact ⟨[], y, u', rfl, hyl, h1.symm, fun x hx => ⟨(below_anc h.ids hyl (by rw [e1]; exact List.mem_append_left _ hx)).imp' (· + 1) fun k hk => hk, h2 x hx⟩⟩
          · exact ahead_cons [y] h1
theorem below_split {l : List CE} (h : Ok l) : ∀ {n : Nat} {a b c : Int} {m : Nat}, (∀ y ∈ kids l a b c, lvl l m y) → ∀ {u v : List CE} {z : CE}, belowF l n a b c = u ++ z :: v →
    (z.after = (a, b, c) ∧ ∀ x ∈ u, x.after = z.after → gtB x z = true) ∨ Ahead l u z
  | 0, _, _, _, _, _, u, v, z, e => by cases u <;> cases e
  | n + 1, a, b, c, m, hm, u, v, z, e => by
    rcases flat_split h hm (fun y hy u v z e => below_split h (fun y' hy' => kids_lvl h.ids ((mem_kids h.ids).1 hy).1 (hm y hy) hy') e) (kids l a b c) (fun _ hy => hy) (kids_desc h.ids a b c) e with ⟨h1, h2⟩ | h1
    · have := ((mem_kids h.ids).1 h1).2
      exact .inl ⟨this, fun x hx hxa => h2 x hx (hxa.trans this)⟩
    · exact .inr h1

theorem all_split {l : List CE} (h : Ok l) {u v : List CE} {z : CE} (e : all l = u ++ z :: v) : (z.after = (0, 0, 0) ∧ ∀ x ∈ u, x.after = z.after → gtB x z = true) ∨ Ahead l u z :=
  below_split h (fun _ hy => root_kids h.ids hy) e

/-! The cells above each cell, as the law lists them -/
def aget (U : List (ID × List ID)) (i : ID) : List ID := ((U.find? fun e => e.1 == i).map (·.2)).getD []
def ubd : List CE → List (ID × List ID)
  | [] => []
  | c :: r => ubd r ++ [(c.id, c.id :: (if c.after = (0, 0, 0) then [] else aget (ubd r) c.after))]
def undL (u : List CE) : List (ID × List ID) := ubd u.reverse
theorem undL_snoc (u : List CE) (c : CE) : undL (u ++ [c]) = undL u ++ [(c.id, c.id :: (if c.after = (0, 0, 0) then [] else aget (undL u) c.after))] := by
  unfold undL
  rw [List.reverse_append]
  rfl
theorem undL_keys (u : List CE) : (undL u).map (·.1) = u.map CE.id := by
  unfold undL
  suffices h : ∀ r : List CE, (ubd r).map (·.1) = r.reverse.map CE.id by simpa using h u.reverse
  intro r
  induction r with
  | nil => rfl
  | cons c r ih => simp [ubd, ih]
theorem aget_snoc {U : List (ID × List ID)} {i j : ID} {A : List ID} (h : i ≠ j) : aget (U ++ [(i, A)]) j = aget U j := by
  unfold aget
  rw [List.find?_append]
  cases U.find? (fun e => e.1 == j) with
  | some e => rfl
  | none => simp [h]
theorem aget_new {U : List (ID × List ID)} {i : ID} {A : List ID} (h : i ∉ U.map (·.1)) : aget (U ++ [(i, A)]) i = A := by
  unfold aget
  rw [List.find?_append]
  have : U.find? (fun e => e.1 == i) = none := by
    rw [List.find?_eq_none]
    intro e he hx
    exact h (List.mem_map.2 ⟨e, he, by simpa using hx⟩)
  rw [this]
  simp
theorem und_ok (u : List CE) (hu : Ids u) : ∀ x ∈ u, (∀ i ∈ aget (undL u) x.id, i ∈ u.map CE.id) ∧ (aget (undL u) x.id).Nodup := by
  induction h : u.length generalizing u with
  | zero => intro x hx; rw [List.length_eq_zero_iff.1 h] at hx; cases hx
  | succ n ih =>
    obtain ⟨w, c, rfl⟩ : ∃ w c, u = w ++ [c] := ⟨u.dropLast, u.getLast (by intro e; rw [e] at h; cases h), (List.dropLast_concat_getLast _).symm⟩
    have hw : Ids w := (List.pairwise_append.1 hu).1
    have hc : ∀ x ∈ w, x.id ≠ c.id := fun x hx => (List.pairwise_append.1 hu).2.2 x hx c (by simp)
    have ihw := ih w hw (by simpa using h)
    have hck : c.id ∉ (undL w).map (·.1) := by
      rw [undL_keys]; intro hm
      obtain ⟨x, hx, e⟩ := List.mem_map.1 hm
      exact hc x hx e
    have hA : ∀ i : ID, (∀ j ∈ aget (undL w) i, j ∈ w.map CE.id) ∧ (aget (undL w) i).Nodup := fun i => by
      by_cases hi : ∃ x ∈ w, x.id = i
      · obtain ⟨x, hx, rfl⟩ := hi
        exact ihw x hx
      · have : aget (undL w) i = [] := by
          unfold aget
          have : (undL w).find? (fun e => e.1 == i) = none := by
            rw [List.find?_eq_none]
            intro e he hx
            have hm : e.1 ∈ (undL w).map (·.1) := List.mem_map.2 ⟨e, he, rfl⟩
            rw [undL_keys] at hm
            obtain ⟨x, hx', e'⟩ := List.mem_map.1 hm
            exact hi ⟨x, hx', e'.trans (by simpa using hx)⟩
          rw [this]; rfl
        rw [this]
        exact ⟨fun _ h => (by cases h), List.nodup_nil⟩
    intro x hx
    rw [undL_snoc]
    rcases List.mem_append.1 hx with hx | hx
    · rw [aget_snoc (Ne.symm (hc x hx))]
      exact ⟨fun i hi => by simp only [List.map_append, List.mem_append]; exact .inl ((ihw x hx).1 i hi), (ihw x hx).2⟩
    · obtain rfl : x = c := by simpa using hx
      rw [aget_new hck]
      refine ⟨fun i hi => ?_, ?_⟩
      · rcases List.mem_cons.1 hi with rfl | hi
        · simp
        · split at hi
          · cases hi
          · simp only [List.map_append, List.mem_append]; exact .inl ((hA x.after).1 i hi)
      · rw [List.nodup_cons]
        split
        · exact ⟨by simp, List.nodup_nil⟩
        · refine ⟨fun hm => ?_, (hA _).2⟩
          obtain ⟨y, hy, e⟩ := List.mem_map.1 ((hA x.after).1 _ hm)
          exact hc y hy e

theorem und_anc {l : List CE} (h : Ok l) (u v : List CE) (he : all l = u ++ v) : ∀ k x p, x ∈ u → Anc l k x p → p.id ∈ aget (undL u) x.id := by
  have hnd := all_nodup h
  have hin : ∀ x ∈ all l, x ∈ l := fun x hx => ((mem_all h).1 hx).1
  induction hu : u.length generalizing u v with
  | zero => intro k x p hx; rw [List.length_eq_zero_iff.1 hu] at hx; cases hx
  | succ n ih =>
    obtain ⟨w, c, rfl⟩ : ∃ w c, u = w ++ [c] := ⟨u.dropLast, u.getLast (by intro e; rw [e] at hu; cases hu), (List.dropLast_concat_getLast _).symm⟩
    have he' : all l = w ++ (c :: v) := by rw [he]; simp
    have ihw := ih w (c :: v) he' (by simpa using hu)
    have hidne : ∀ x ∈ w, x.id ≠ c.id := fun x hx e => by
      rw [he'] at hnd
      have hxc : x = c := h.one (hin x (by rw [he']; exact List.mem_append_left _ hx)) (hin c (by rw [he']; simp)) e
      exact (List.nodup_append.1 hnd).2.2 x hx c List.mem_cons_self hxc
    have hck : c.id ∉ (undL w).map (·.1) := by
      rw [undL_keys]; intro hm
      obtain ⟨x, hx, e⟩ := List.mem_map.1 hm
      exact hidne x hx e
    intro k x p hx hA
    rw [undL_snoc]
    rcases List.mem_append.1 hx with hx | hx
    · rw [aget_snoc (Ne.symm (hidne x hx))]
      exact ihw k x p hx hA
    · obtain rfl : x = c := by simpa using hx
      rw [aget_new hck]
      cases k with
      | zero => cases hA; exact List.mem_cons_self
      | succ k =>
        obtain ⟨q, hq, e, hA⟩ := hA
        have h0 : x.after ≠ (0, 0, 0) := e ▸ h.id0 hq
        rw [if_neg h0]
        refine List.mem_cons_of_mem _ ?_
        rcases all_split h he' with ⟨h1, _⟩ | ⟨u1, p', u2, rfl, hp, e', _⟩
        · exact absurd h1 h0
        · have : q = p' := h.one hq hp (e.trans e'.symm)
          subst this
          rw [← e]
          exact ihw k q p (by simp) hA
end Go.Sq
