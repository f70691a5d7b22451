/- CODEC, 13: what the reference's reader reads, is what the program's reads. -/
import Derived.Test.YtbmimjjhifjofaaC12
import Derived.Test.YtbmimjjhifjofaaC3
namespace Go.Cdc
set_option linter.unusedSimpArgs false
set_option linter.unusedVariables false
open Go Go.Am Go.Proofs

theorem rsgn_eq {u : Nat} (hu : u < 18446744073709551616) : (Int.tmod (↑u : Int) 2 = (1 : Int) → (IntKind.wrap IntKind.i64 (IntKind.wrap IntKind.i64 (0 - IntKind.wrap IntKind.i64 (IntKind.wrap IntKind.u64 (Int.tdiv (↑u : Int) 2))) - 1) : Int) = sgn u) ∧ ((¬Int.tmod (↑u : Int) 2 = (1 : Int)) → (IntKind.wrap IntKind.i64 (IntKind.wrap IntKind.u64 (Int.tdiv (↑u : Int) 2)) : Int) = sgn u) := by
  have e1 : Int.tdiv (↑u : Int) 2 = ((u / 2 : Nat) : Int) := rfl
  have e2 : Int.tmod (↑u : Int) 2 = ((u % 2 : Nat) : Int) := rfl
  have e3 : IntKind.wrap IntKind.u64 ((u / 2 : Nat) : Int) = ((u / 2 : Nat) : Int) := wrap64 (by omega)
  have e4 : IntKind.wrap IntKind.i64 ((u / 2 : Nat) : Int) = ((u / 2 : Nat) : Int) := wrap_ok (by omega) (by omega)
  rw [e1, e2, e3, e4]
  unfold sgn
  refine ⟨fun h => ?_, fun h => ?_⟩
  · rw [if_neg (by omega), wrap_ok (n := 0 - ((u / 2 : Nat) : Int)) (by omega) (by omega), wrap_ok (by omega) (by omega)]; omega
  · rw [if_pos (by omega)]

/-- What is asked of the reference's reader at a depth: it reads as p does. -/
def RReads (b : List UInt8) (dep : Nat) (p : List UInt8 → Bool × CV × List UInt8) : Prop := ∀ a : Nat, a ≤ b.length → ∃ (a' : Nat) (v : CV), a' ≤ b.length ∧ ((p (b.drop a)).1 = true → v = (p (b.drop a)).2.1 ∧ b.drop a' = (p (b.drop a)).2.2) ∧
  CallC P G 30 [.ptr 0 0, int (dep : Int)] (rr b a false) (.ret (val v)) (rr b a' (!(p (b.drop a)).1))

theorem rl_loop {b : List UInt8} {dep : Nat} {p : List UInt8 → Bool × CV × List UInt8} (hp : RReads b (dep + 1) p) (hd : dep < 16) (N : Nat) (hN : N ≤ 1000000000) : ∀ (n i g a : Nat) (vs : List CV), N - i = n → i ≤ N → vs.length = i → a ≤ b.length →
    ∃ (a' g' : Nat) (ws : List CV), a' ≤ b.length ∧ ((lstF p n (b.drop a)).1 = true → ws = vs ++ (lstF p n (b.drop a)).2.1 ∧ b.drop a' = (lstF p n (b.drop a)).2.2) ∧
      RunL P G none 1 (loopAt P 30 0) (rl1 b dep a N i g false vs) (.exit 1) { env := slots 142 [(4, .ptr 1 0), (8, .ptr 2 0)], H := rr b a' (!(lstF p n (b.drop a)).1) ++ [.box [int 0, int 0, str { data := #[] }, nilS], .box [int 3, int 0, str { data := #[] }, .own 3 g' 0 ws.length], .arr g' 4 false (encL ws)] }
  | 0, i, g, a, vs, hn, hi, hvs, ha => by
    refine ⟨a, g, vs, ha, (fun _ => ⟨(List.append_nil vs).symm, rfl⟩), ?_⟩
    exact rl1_end b dep a N i g vs (by omega) trivial
  | n + 1, i, g, a, vs, hn, hi, hvs, ha => by
    obtain ⟨a1, v, h1, h2, h3⟩ := hp a ha
    have e1 : ((encL vs ++ [[int (CV.k v), int (CV.n v), str (CV.s v), AV.sl 4 false (encL (CV.l v))]]) : List (List AV)) = encL (vs ++ [v]) := by rw [← encL_append, ← encL_one]; rfl
    have e2 : vs.length + 1 = (vs ++ [v]).length := by simp
    cases hok : (p (b.drop a)).1 with
    | false =>
      rw [hok] at h3
      refine ⟨a1, g + 1, vs ++ [v], h1, (fun h => by simp [lstF, hok] at h), ?_⟩
      have e : (lstF p (n + 1) (b.drop a)).1 = false := by simp [lstF, hok]
      rw [e]
      refine rl1_step b dep a a1 N i g true vs hd (by omega) hN (by omega) v h3 _ _ ?_
      rw [e1, e2]
      exact rl1_bad b dep a1 N (i + 1) (g + 1) (vs ++ [v]) ⟨fun _ => trivial, fun _ => trivial⟩
    | true =>
      rw [hok] at h3
      obtain ⟨rfl, h5⟩ := h2 hok
      obtain ⟨a', g', ws, k1, k2, k3⟩ := rl_loop hp hd N hN n (i + 1) (g + 1) a1 (vs ++ [(p (b.drop a)).2.1]) (by omega) (by omega) (by simp [hvs]) h1
      have e : lstF p (n + 1) (b.drop a) = ((lstF p n (p (b.drop a)).2.2).1, (p (b.drop a)).2.1 :: (lstF p n (p (b.drop a)).2.2).2.1, (lstF p n (p (b.drop a)).2.2).2.2) := by simp [lstF, hok]
      rw [h5] at k2 k3
      rw [e]
      refine ⟨a', g', ws, k1, (fun h => ?_), ?_⟩
      · obtain ⟨q1, q2⟩ := k2 h
        exact ⟨by rw [q1, List.append_assoc]; rfl, q2⟩
      · refine rl1_step b dep a a1 N i g false vs hd (by omega) hN (by omega) _ h3 _ _ ?_
        rw [e1, e2]
        exact k3

theorem rl0_loop {b : List UInt8} {dep : Nat} {p : List UInt8 → Bool × CV × List UInt8} (hp : RReads b (dep + 1) p) (hd : dep < 16) (n : Nat) (hN : n + 1 ≤ 1000000000) (a : Nat) (ha : a ≤ b.length) :
    ∃ (a' g' : Nat) (ws : List CV), a' ≤ b.length ∧ ((lstF p (n + 1) (b.drop a)).1 = true → ws = (lstF p (n + 1) (b.drop a)).2.1 ∧ b.drop a' = (lstF p (n + 1) (b.drop a)).2.2) ∧
      RunL P G none 1 (loopAt P 30 0) (rl0 b dep a (n + 1)) (.exit 1) { env := slots 142 [(4, .ptr 1 0), (8, .ptr 2 0)], H := rr b a' (!(lstF p (n + 1) (b.drop a)).1) ++ [.box [int 0, int 0, str { data := #[] }, nilS], .box [int 3, int 0, str { data := #[] }, .own 3 g' 0 ws.length], .arr g' 4 false (encL ws)] } := by
  obtain ⟨a1, v, h1, h2, h3⟩ := hp a ha
  have e1 : ([[int (CV.k v), int (CV.n v), str (CV.s v), AV.sl 4 false (encL (CV.l v))]] : List (List AV)) = encL [v] := by rw [← encL_one]; rfl
  cases hok : (p (b.drop a)).1 with
  | false =>
    rw [hok] at h3
    refine ⟨a1, 0, [v], h1, (fun h => by simp [lstF, hok] at h), ?_⟩
    have e : (lstF p (n + 1) (b.drop a)).1 = false := by simp [lstF, hok]
    rw [e]
    refine rl0_step b dep a a1 (n + 1) true hd (by omega) hN v h3 _ _ ?_
    rw [e1]
    exact rl1_bad b dep a1 (n + 1) 1 0 [v] ⟨fun _ => trivial, fun _ => trivial⟩
  | true =>
    rw [hok] at h3
    obtain ⟨rfl, h5⟩ := h2 hok
    obtain ⟨a', g', ws, k1, k2, k3⟩ := rl_loop hp hd (n + 1) hN n 1 0 a1 [(p (b.drop a)).2.1] (by omega) (by omega) rfl h1
    have e : lstF p (n + 1) (b.drop a) = ((lstF p n (p (b.drop a)).2.2).1, (p (b.drop a)).2.1 :: (lstF p n (p (b.drop a)).2.2).2.1, (lstF p n (p (b.drop a)).2.2).2.2) := by simp [lstF, hok]
    rw [h5] at k2 k3
    rw [e]
    refine ⟨a', g', ws, k1, (fun h => k2 h), ?_⟩
    refine rl0_step b dep a a1 (n + 1) false hd (by omega) hN _ h3 _ _ ?_
    rw [e1]
    exact k3

theorem rvalS {b : List UInt8} {dep : Nat} {deep : Bool} {p : List UInt8 → Bool × CV × List UInt8} (hl : b.length ≤ 1000000000) (hp : deep = true → dep < 16 ∧ RReads b (dep + 1) p) (hd : deep = false → dep = 16) : RReads b dep (valS deep p) := by
  intro a ha
  have hdep : dep ≤ 16 := by
    cases deep with
    | true => have := (hp rfl).1; omega
    | false => have := hd rfl; omega
  cases hb : b.drop a with
  | nil =>
    have hlen : b.length ≤ a := by
      have := congrArg List.length hb
      simp at this; omega
    refine ⟨a, .mk 0 0 .empty [], ha, (fun h => by simp [valS] at h), ?_⟩
    exact rv_x b a a true dep 0 (nx_end b a false hlen trivial) (by decide) (by decide) (by decide) trivial
  | cons c r =>
    obtain ⟨hx, hdr, hlen⟩ := drop_cons hb
    have hn := next_ok b a false c hl hx
    obtain ⟨a2, k1, k2, k3⟩ := rnumber_c b (a + 1) hl (by omega)
    rw [hdr] at k2 k3
    have hU := numU_lt r
    by_cases h1 : c.toNat = 1
    · rw [valS_1 h1]
      cases hok : numOk r with
      | true =>
        rw [hok] at k3
        refine ⟨a2, mkI (sgn (numU r)), k1, (fun _ => ⟨rfl, k2 hok⟩), ?_⟩
        exact rv_1 b a (a + 1) a2 (numU r) false dep c hn h1 k3 _ (rsgn_eq hU)
      | false =>
        rw [hok] at k3
        refine ⟨a2, mkI (sgn 0), k1, (fun h => by cases h), ?_⟩
        exact rv_1 b a (a + 1) a2 0 true dep c hn h1 k3 _ (rsgn_eq (by decide))
    · by_cases h2 : c.toNat = 2
      · rw [valS_2 h2]
        cases hok : numOk r with
        | false =>
          rw [hok] at k3
          have e : lenOk r = false := by simp [lenOk, hok]
          rw [e]
          exact ⟨a2, .mk 0 0 .empty [], k1, (fun h => by cases h), rv_2b b a (a + 1) a2 _ dep c hn h2 k3 trivial⟩
        | true =>
          rw [hok] at k3
          have hd2 := k2 hok
          have hrl : (numR r).length = b.length - a2 := by rw [← hd2, List.length_drop]
          by_cases hle : numU r ≤ (numR r).length
          · have e : lenOk r = true := by simp [lenOk, hok, hle]
            rw [e]
            refine ⟨a2 + numU r, mkT ⟨((numR r).take (numU r)).toArray⟩, by omega, (fun _ => ⟨rfl, ?_⟩), ?_⟩
            · show b.drop (a2 + numU r) = (numR r).drop (numU r)
              rw [← hd2, List.drop_drop]
            · have := rv_2 b a (a + 1) a2 (numU r) dep c hn h2 k3 hl k1 (by omega) trivial
              rw [List.drop_take, show a2 + numU r - a2 = numU r by omega, hd2] at this
              exact this
          · have e : lenOk r = false := by simp [lenOk, hok, hle]
            rw [e]
            exact ⟨a2, .mk 0 0 .empty [], k1, (fun h => by cases h), rv_2l b a (a + 1) a2 _ dep c hn h2 k3 hl k1 (by simp only [if_true]; omega) trivial⟩
      · by_cases h3 : c.toNat = 3
        · rw [valS_3 h3]
          cases hok : numOk r with
          | false =>
            rw [hok] at k3
            have e : lenOk r = false := by simp [lenOk, hok]
            rw [if_neg (by rw [e]; simp)]
            exact ⟨a2, .mk 0 0 .empty [], k1, (fun h => by cases h), rv_3b b a (a + 1) a2 _ dep c hn h3 k3 trivial⟩
          | true =>
            rw [hok] at k3
            simp only [if_true] at k3
            have hd2 := k2 hok
            have hrl : (numR r).length = b.length - a2 := by rw [← hd2, List.length_drop]
            by_cases hle : numU r ≤ (numR r).length
            · have e : lenOk r = true := by simp [lenOk, hok, hle]
              cases deep with
              | false =>
                rw [if_neg (by simp)]
                exact ⟨a2, .mk 0 0 .empty [], k1, (fun h => by cases h), rv_3l b a (a + 1) a2 _ dep c hn h3 k3 hl k1 (.inr (hd rfl)) ⟨fun _ => trivial, fun _ => trivial⟩⟩
              | true =>
                obtain ⟨hdp, hpp⟩ := hp rfl
                rw [if_pos ⟨rfl, e⟩]
                cases hu : numU r with
                | zero =>
                  refine ⟨a2, mkL [], k1, (fun _ => ⟨rfl, hd2⟩), ?_⟩
                  rw [hu] at k3
                  exact rv_30 b a (a + 1) a2 0 dep c hn h3 k3 hl k1 hdp rfl trivial
                | succ n =>
                  obtain ⟨a', g', ws, q1, q2, q3⟩ := rl0_loop hpp hdp n (by omega) a2 k1
                  rw [hd2] at q2 q3
                  refine ⟨a', mkL ws, q1, (fun h => ⟨congrArg mkL (q2 h).1, (q2 h).2⟩), ?_⟩
                  rw [hu] at k3
                  exact rv_31 b a (a + 1) a2 (n + 1) dep c hn h3 k3 hl k1 hdp (by omega) ws a' g' _ q3 trivial
            · have e : lenOk r = false := by simp [lenOk, hok, hle]
              rw [if_neg (by rw [e]; simp)]
              exact ⟨a2, .mk 0 0 .empty [], k1, (fun h => by cases h), rv_3l b a (a + 1) a2 _ dep c hn h3 k3 hl k1 (.inl (by omega)) ⟨fun _ => trivial, fun _ => trivial⟩⟩
        · rw [valS_x h1 h2 h3]
          exact ⟨a + 1, .mk 0 0 .empty [], by omega, (fun h => by cases h), rv_x b a (a + 1) false dep c hn h1 h2 h3 trivial⟩

theorem rvalF {b : List UInt8} (hl : b.length ≤ 1000000000) : ∀ (f dep : Nat), f + dep = 16 → RReads b dep (valF f)
  | 0, dep, h => rvalS hl (fun h => by cases h) (fun _ => by omega)
  | f + 1, dep, h => rvalS hl (fun _ => ⟨by omega, rvalF hl f (dep + 1) (by omega)⟩) (fun h => by cases h)

end Go.Cdc
