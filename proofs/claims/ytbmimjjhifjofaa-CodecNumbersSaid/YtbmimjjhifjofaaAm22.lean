/- THE ABSTRACT MACHINE, 22: small laws that the printed walks use. -/
import Derived.Test.YtbmimjjhifjofaaAm21
namespace Go.Am
open Go

abbrev int (n : Int) : AV := .lit (.int .i64 n)
abbrev bool (b : Bool) : AV := .lit (.bool b)
abbrev str (s : ByteArray) : AV := .lit (.string s)
theorem allm_nil {α : Type} {p : α → Prop} : ∀ x ∈ ([] : List α), p x := fun _ h => by cases h
theorem allm_cons {α : Type} {p : α → Prop} {a : α} {l : List α} (h : p a) (hl : ∀ x ∈ l, p x) : ∀ x ∈ a :: l, p x := fun x hx => by
  rcases List.mem_cons.1 hx with rfl | hx
  · exact h
  · exact hl x hx
theorem allm_append {α : Type} {p : α → Prop} {a b : List α} (ha : ∀ x ∈ a, p x) (hb : ∀ x ∈ b, p x) : ∀ x ∈ a ++ b, p x := fun x hx => by
  rcases List.mem_append.1 hx with hx | hx
  · exact ha x hx
  · exact hb x hx
abbrev nilS : AV := .lit (.slice none 0 0)
theorem el_get {α : Type} {f : α → List AV} {v : List α} {k : Nat} {x : α} (h : v[k]? = some x) : (v.map f)[k]? = some (f x) := by rw [List.getElem?_map, h]; rfl
theorem el_nat {α : Type} {f : α → List AV} {v : List α} {k : Nat} {x : α} (h : v[k]? = some x) : 0 ≤ (k : Int) ∧ (v.map f)[(k : Int).toNat]? = some (f x) := ⟨by omega, el_get h⟩
theorem el_nat' {v : List (List AV)} {k : Nat} {x : List AV} (h : v[k]? = some x) : 0 ≤ (k : Int) ∧ v[(k : Int).toNat]? = some x := ⟨by omega, h⟩
theorem el_int {α : Type} {f : α → List AV} {v : List α} {n : Int} {x : α} (h : 0 ≤ n ∧ v[n.toNat]? = some x) : 0 ≤ n ∧ (v.map f)[n.toNat]? = some (f x) := ⟨h.1, el_get h.2⟩

theorem wrap_ok {n : Int} (h0 : -9223372036854775808 ≤ n) (h1 : n < 9223372036854775808) : IntKind.wrap IntKind.i64 n = n := by rw [IntKind.wrap_i64]; omega
theorem Sub.of_wrap {n m : Int} (h0 : -9223372036854775808 ≤ n) (h1 : n < 9223372036854775808) (h2 : n = m) : Sub (.lit (.int .i64 (IntKind.wrap .i64 n))) (.lit (.int .i64 m)) := .of_eq (by rw [wrap_ok h0 h1, h2])
theorem wrap_okU {n : Int} (h0 : 0 ≤ n) (h1 : n < 18446744073709551616) : IntKind.wrap IntKind.u64 n = n := by rw [IntKind.wrap_u64]; omega
theorem Sub.of_wrapU {n m : Int} (h0 : 0 ≤ n) (h1 : n < 18446744073709551616) (h2 : n = m) : Sub (.lit (.int .u64 (IntKind.wrap .u64 n))) (.lit (.int .u64 m)) := .of_eq (by rw [wrap_okU h0 h1, h2])
theorem Sub.int_eq {k : IntKind} {a b : Int} (h : a = b) : Sub (.lit (.int k a)) (.lit (.int k b)) := .of_eq (by rw [h])
theorem Sub.bool_eq {a b : Bool} (h : a = b) : Sub (.lit (.bool a)) (.lit (.bool b)) := .of_eq (by rw [h])
theorem Sub.str_eq {a b : ByteArray} (h : a = b) : Sub (.lit (.string a)) (.lit (.string b)) := .of_eq (by rw [h])
theorem Sub.list_eq {sz : Nat} {t : Bool} {xs ys : List (List AV)} (h : xs = ys) : Sub (.sl sz t xs) (.sl sz false ys) := h ▸ .loose sz t xs
theorem Sub.nil_eq {sz : Nat} {ys : List (List AV)} (h : [] = ys) : Sub (.lit (.slice none 0 0)) (.sl sz false ys) := h ▸ .nil sz

/-- Lists, place by place. -/
def SubL : List AV → List AV → Prop
  | [], [] => True
  | x :: xs, y :: ys => Sub x y ∧ SubL xs ys
  | _, _ => False
theorem SubL.len : ∀ {xs ys : List AV}, SubL xs ys → ys.length = xs.length
  | [], [], _ => rfl
  | _ :: _, _ :: _, h => by simp [SubL.len h.2]
theorem SubL.get : ∀ {xs ys : List AV}, SubL xs ys → ∀ j, j < xs.length → Sub (xs.getD j .dead) (ys.getD j .dead)
  | x :: xs, y :: ys, h, 0, _ => by simpa using h.1
  | x :: xs, y :: ys, h, j + 1, hj => by simpa using SubL.get h.2 j (by simpa using hj)
  | [], [], _, _, hj => absurd hj (by simp)
theorem Sub.tups {xs ys : List AV} (h : SubL xs ys) : Sub (.tup xs) (.tup ys) := .tup h.len h.get
theorem Sub.aggs {xs ys : List AV} (h : SubL xs ys) : Sub (.agg xs) (.agg ys) := fun V v hr => by
  obtain ⟨vs, rfl, h1, h2⟩ := rep_agg hr
  exact .agg ys vs (h1.trans h.len.symm) fun j hj => h.get j (by rw [h.len] at hj; exact hj) V _ (h2 j (by rw [h.len] at hj; exact hj))

/-- Named slots, place by place. -/
def SubP : List (Nat × AV) → List (Nat × AV) → Prop
  | [], [] => True
  | (i, x) :: xs, (j, y) :: ys => i = j ∧ Sub x y ∧ SubP xs ys
  | _, _ => False
theorem SubP.at : ∀ {xs ys : List (Nat × AV)}, SubP xs ys → ∀ i, Sub (slotAt xs i) (slotAt ys i)
  | [], [], _, i => .refl _
  | (a, x) :: xs, (b, y) :: ys, h, i => by
    obtain ⟨rfl, h1, h2⟩ := h
    unfold slotAt
    split
    · exact h1
    · exact SubP.at h2 i
theorem SubS.slots {n : Nat} {l l' : List (Nat × AV)} {H : List AObj} {defs : List ADef} (h : SubP l l') : SubS { env := slots n l, H := H, defs := defs } { env := slots n l', H := H, defs := defs } :=
  ⟨rfl, rfl, by simp [Am.slots], fun j hj => by
    have hj : j < n := by simpa [Am.slots] using hj
    simpa [Am.slots, List.getD_eq_getElem?_getD, hj] using h.at j⟩
theorem SubS.slotsH {n : Nat} {l l' : List (Nat × AV)} {H H' : List AObj} {defs : List ADef} (h : SubP l l') (e : H = H') : SubS { env := Am.slots n l, H := H, defs := defs } { env := Am.slots n l', H := H', defs := defs } := e ▸ .slots h

section
variable {P : Program} {G : Nat → Option (List AV)}
theorem CallC.args' {f : FuncId} {xs ys : List AV} {H H' : List AObj} {out : AOut} (h : CallC P G f ys H out H') (hs : SubL xs ys) : CallC P G f xs H out H' := h.args hs.len hs.get
theorem CallC.heap {f : FuncId} {xs : List AV} {H H1 H2 : List AObj} {out : AOut} (h : CallC P G f xs H out H1) (e : H1 = H2) : CallC P G f xs H out H2 := e ▸ h
theorem SubS.envs {env env' : List AV} {H : List AObj} {defs : List ADef} (h : SubL env env') : SubS { env := env, H := H, defs := defs } { env := env', H := H, defs := defs } := ⟨rfl, rfl, h.len, h.get⟩
theorem SubS.envsH {env env' : List AV} {H H' : List AObj} {defs : List ADef} (h : SubL env env') (e : H = H') : SubS { env := env, H := H, defs := defs } { env := env', H := H', defs := defs } := e ▸ .envs h
theorem SubS.of_eq {s t : St} (h : s = t) : SubS s t := h ▸ ⟨rfl, rfl, rfl, fun _ _ => .refl _⟩
theorem RunL.preH {r : Option Nat} {n0 : Nat} {c : Code} {env : List AV} {H K : List AObj} {defs : List ADef} {s' : St} {ex : AEx} (h : RunL P G r n0 c { env := env, H := K, defs := defs } ex s') (hs : HSub H K) : RunL P G r n0 c { env := env, H := H, defs := defs } ex s' := fun V0 V a h0 hst hG hok => by
  have hH : V.H = H := hok.H
  obtain ⟨V2, a1, a2, a3, a4, a5⟩ := hsub_step (K := K) hG (by rw [hH]; exact hs)
  rw [← a1]
  exact h V0 V2 a h0 (hst.trans a4) a5 ⟨hok.env.step a4, a2, hok.defs.step a4⟩
theorem ExRep.step {V V' : View} (hs : Step V V') {ex : AEx} {e : Exit} (h : ExRep V ex e) : ExRep V' ex e := by
  cases ex <;> cases e <;> first | exact h | skip
  obtain ⟨v, h1, h2⟩ := h
  exact ⟨v, h1, h2.step hs⟩
theorem RunL.postH {r : Option Nat} {n0 : Nat} {c : Code} {s s' : St} {K : List AObj} {ex : AEx} (h : RunL P G r n0 c s ex s') (hs : HSub s'.H K) : RunL P G r n0 c s ex { env := s'.env, H := K, defs := s'.defs } :=
  fun V0 V a h0 k1 k2 k3 => LoopIn.mono (h V0 V a h0 k1 k2 k3) fun _ _ _ hE => by
    obtain ⟨V1, rfl, l1, l2, l3, l4⟩ := hE
    obtain ⟨V2, a1, a2, a3, a4, a5⟩ := hsub_step l2 (l3.H ▸ hs)
    exact ⟨V2, a1, l1.trans a4, a5, ⟨l3.env.step a4, a2, l3.defs.step a4⟩, l4.step a4⟩
theorem Goes.sub {V : View} {H K : List AObj} {out : AOut} {e : Ending} {w' : World} (h : Goes G V H out e w') (hs : HSub H K) : Goes G V K out e w' := by
  obtain ⟨V', rfl, k2, k3, rfl, k5⟩ := h
  obtain ⟨V2, a1, a2, a3, a4, a5⟩ := hsub_step (K := K) k3 hs
  refine ⟨V2, a1, k2.trans a4, a5, a2, ?_⟩
  cases out <;> cases e <;> simp only [OutRep] at k5 ⊢
  · exact k5.step a4
  · obtain ⟨v, h1, h2⟩ := k5; exact ⟨v, h1, h2.step a4⟩
theorem CallC.heapSub {f : FuncId} {xs : List AV} {H H1 H2 : List AObj} {out : AOut} (h : CallC P G f xs H out H1) (e : HSub H1 H2) : CallC P G f xs H out H2 := fun V vs hH hG hr => (h V vs hH hG hr).mono fun _ _ he => he.sub e
theorem YieldC.args' {id : Nat} {xs ys : List AV} {H H' : List AObj} {b : Bool} (h : YieldC P G id ys H b H') (hs : SubL xs ys) : YieldC P G id xs H b H' := fun V vs hH hG hr => h V vs hH hG ⟨hr.1.trans hs.len.symm, fun j hj => hs.get j (by rw [hs.len] at hj; exact hj) V _ (hr.2 j (by rw [hs.len] at hj; exact hj))⟩
theorem YieldC.heapSub {id : Nat} {xs : List AV} {H H1 H2 : List AObj} {b : Bool} (h : YieldC P G id xs H b H1) (e : HSub H1 H2) : YieldC P G id xs H b H2 := fun V vs hH hG hr => by
  obtain ⟨f, tmps, x, y, h1, h2⟩ := h V vs hH hG hr
  refine ⟨f, tmps, x, y, h1, fun r => (h2 r).mono fun _ _ he => ?_⟩
  obtain ⟨V', rfl, k2, k3, rfl, k5⟩ := he
  obtain ⟨V2, a1, a2, a3, a4, a5⟩ := hsub_step (K := H2) k3 e
  exact ⟨V2, a1, k2.trans a4, a5, a2, k5⟩
theorem YieldC.to {id : Nat} {xs : List AV} {H H1 H2 : List AObj} {b b' : Bool} (h : YieldC P G id xs H b H1) (e1 : b = b') (e2 : H1 = H2) : YieldC P G id xs H b' H2 := e1 ▸ e2 ▸ h
theorem RunL.to {r : Option Nat} {n0 : Nat} {c : Code} {s s' t : St} {ex ex' : AEx} (h : RunL P G r n0 c s ex s') (e : ex = ex') (hs : SubS s' t) : RunL P G r n0 c s ex' t := e ▸ h.post hs
end
end Go.Am
