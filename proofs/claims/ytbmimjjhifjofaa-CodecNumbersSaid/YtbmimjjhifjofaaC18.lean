/- CODEC, 18: the statements' arguments as data. -/
import Derived.Test.YtbmimjjhifjofaaC17
import Derived.Test.YtbmimjjhifjofaaAm25
namespace Go.Cdc
set_option linter.unusedSimpArgs false
set_option linter.unusedVariables false
open Go Go.Am Go.Proofs

theorem c3 : Try.prog.cellsOf 3 = 1 := by kernel_rfl
theorem c5 : Try.prog.cellsOf 5 = 1 := by kernel_rfl
theorem c9 : Try.prog.cellsOf 9 = 1 := by kernel_rfl
theorem c22 : Try.prog.cellsOf 22 = 1 := by kernel_rfl
theorem c24 : Try.prog.cellsOf 24 = 4 := by kernel_rfl
theorem c27 : Try.prog.cellsOf 27 = 1 := by kernel_rfl

noncomputable def cInt : Cod Try.prog 3 Int := Cod.int Try.underlying3 c3
theorem wf_u8 {n : Int} (h : (Lit.int .u8 n).wf = true) : 0 ≤ n ∧ n < 256 := by
  simp [Lit.wf, IntKind.min, IntKind.max, IntKind.signed, IntKind.bits] at h
  omega
noncomputable def cU8 : Cod Try.prog 5 UInt8 where
  enc c := [u8 c]
  good _ := True
  size _ := c5.symm
  rd h := by
    obtain ⟨n, rfl, _, hw⟩ := DataW.trod_int Try.underlying5 h
    have hr := wf_u8 hw
    have e : ((UInt8.ofNat n.toNat).toNat : Int) = n := by
      rw [UInt8.toNat_ofNat']
      have : n.toNat % 2 ^ 8 = n.toNat := Nat.mod_eq_of_lt (by omega)
      omega
    refine ⟨UInt8.ofNat n.toNat, trivial, rfl, fun j hj => ?_⟩
    match j, hj with
    | 0, _ =>
      refine ⟨?_, rfl⟩
      show PRep _ _ (.lit (.int .u8 ((UInt8.ofNat n.toNat).toNat : Int))) (.int .u8 n)
      rw [e]
      exact .lit _
noncomputable def cBytes : Cod Try.prog 27 (List UInt8) := Cod.slice Try.underlying27 c27 (by rw [c5]; decide) cU8
theorem cBytes_enc (l : List UInt8) : cBytes.enc l = [byt l] := by
  show [AV.sl (Try.prog.cellsOf 5) false (l.map cU8.enc)] = [AV.sl 1 false (bys l)]
  rw [c5]; rfl

/-- A value's reading, of bounded fuel. -/
noncomputable def cCV : (N : Nat) → { c : CodN Try.prog 24 CV N // c.enc = Cdc.enc ∧ ∀ a, c.good a → Okv a }
  | 0 => ⟨{ enc := Cdc.enc, good := fun _ => False, size := fun _ => c24.symm, rd := fun hn h => (by
      obtain ⟨_, m, hm, _⟩ := DataW.trod_struct Try.underlying24 h
      omega) }, rfl, fun _ h => h.elim⟩
  | N + 1 =>
    let c := cCV N
    let sl : CodN Try.prog 22 (List CV) N := (CodN.slice Try.underlying22 c22 (by rw [c24]; decide) c.1).weak
    let f : FCodN Try.prog 0 _ _ N := FCodN.cons (CodN.int Try.underlying3 c3) rfl (FCodN.cons (CodN.int Try.underlying3 c3) (by kernel_rfl) (FCodN.cons (CodN.str Try.underlying9 c9) (by kernel_rfl) (FCodN.cons sl (by kernel_rfl) FCodN.nil)))
    ⟨CodN.struct Try.underlying24 (by kernel_rfl) f (fun a => .mk a.1 a.2.1 a.2.2.1 a.2.2.2.1) Cdc.enc (fun a => by
      show [Am.int a.1, Am.int a.2.1, Am.str a.2.2.1, AV.sl 4 false (encL a.2.2.2.1)] = [Am.int a.1] ++ ([Am.int a.2.1] ++ ([Am.str a.2.2.1] ++ ([AV.sl (Try.prog.cellsOf 24) false (a.2.2.2.1.map c.1.enc)] ++ [])))
      rw [c24, c.2.1, encL_map]; rfl) (fun _ => c24.symm), rfl, fun b hb => by
      obtain ⟨a, rfl, h1, h2, h3, ⟨h4, h5⟩, _⟩ := hb
      exact .mk _ _ _ _ h2 h3 h4 fun x hx => c.2.2 x (h5 x hx)⟩

theorem reads_int {H : Type} {enc : TypeId × Value → H} {W : World} {base : Nat} {v : Value} {d : DataW H} {ps : List MemPlace} (hv : Value.okWide Try.prog W .any base 3 v) (h : DataW.Trod enc Try.prog W 0 (fun _ => true) true 3 v d ps) : ∃ n : Int, (-9223372036854775808 ≤ n ∧ n < 9223372036854775808) ∧ Rep (view0 W) (Am.int n) v :=
  cInt.one (by kernel_rfl) hv h (mk := Am.int) (fun _ => rfl)
theorem reads_bytes {H : Type} {enc : TypeId × Value → H} {W : World} {base : Nat} {v : Value} {d : DataW H} {ps : List MemPlace} (hv : Value.okWide Try.prog W .any base 27 v) (h : DataW.Trod enc Try.prog W 0 (fun _ => true) true 27 v d ps) : ∃ l : List UInt8, l.length ≤ 9223372036854775807 ∧ Rep (view0 W) (byt l) v := by
  obtain ⟨a, h1, h2⟩ := cBytes.one (by kernel_rfl) hv h cBytes_enc
  exact ⟨a, h1.1, h2⟩
theorem reads_value {H : Type} {enc : TypeId × Value → H} {W : World} {base : Nat} {v : Value} {d : DataW H} {ps : List MemPlace} (hv : Value.okWide Try.prog W .any base 24 v) (h : DataW.Trod enc Try.prog W 0 (fun _ => true) true 24 v d ps) : ∃ a : CV, Okv a ∧ Rep (view0 W) (val a) v := by
  obtain ⟨a, h1, h2⟩ := CodN.arg (fun N => (cCV N).1) (fun N => (cCV N).2.1) (fun N => (cCV N).2.2) h
  have : ∃ cs, v = .agg cs := by
    unfold Value.okWide at hv
    rw [Try.underlying24] at hv
    exact ⟨_, hv.choose_spec.1⟩
  obtain ⟨cs, rfl⟩ := this
  refine ⟨a, h1, ?_⟩
  have e : cs = cs.toList.toArray := by simp
  rw [e]
  exact .agg _ _ h2.1 h2.2

end Go.Cdc
