import Derived.Test.YtefamlckjpbcoaaG14
import Derived.Test.YtefamlckjpbcoaaChecked
set_option maxRecDepth 100000
set_option linter.unusedSimpArgs false
set_option linter.unusedVariables false
/- SEQUENCE, 13: the comparison that sorts, in any world. -/
namespace Go.Sq
open Go Go.Am Go.Proofs Go.Seat

def encV (c : CE) : List Value := [.int .i64 c.dv, .int .i64 c.sq, .int .i64 c.at', .int .i64 c.ad, .int .i64 c.as', .int .i64 c.aa, .int .i64 c.tm, .string c.vl, .bool c.gn]
theorem rep_cel (V : View) (c : CE) : Rep V (cel c) (.agg (encV c).toArray) := .agg (enc c) (encV c) rfl fun j hj => by
  have : j < 9 := hj
  match j, this with
  | 0, _ => exact .pure _ _ (.lit _)
  | 1, _ => exact .pure _ _ (.lit _)
  | 2, _ => exact .pure _ _ (.lit _)
  | 3, _ => exact .pure _ _ (.lit _)
  | 4, _ => exact .pure _ _ (.lit _)
  | 5, _ => exact .pure _ _ (.lit _)
  | 6, _ => exact .pure _ _ (.lit _)
  | 7, _ => exact .pure _ _ (.lit _)
  | 8, _ => exact .pure _ _ (.lit _)
end Go.Sq

/- THE ABSTRACT MACHINE, 31: functions put together of pieces; a region whose order is drawn, by a family of states. -/
namespace Go.Am
open Go
section
variable {P : Program} {G : Nat → Option (List AV)}

theorem callC_sem {f : FuncId} {fn : Func} {c : Code} {args : List AV} {H : List AObj} {out : AOut} {H' : List AObj} (hfn : P.funcs[f]? = some fn) (hb : fn.body = some c)
    (h : ∀ V a, V.H = H → HeapRep G V → StOk V { env := args ++ List.replicate (fn.ntmps - args.length) (.lit undef), H := H } a → c.wpIn (fz none) 0 P (bodyPostM Fence.wide 0 P fn (Goes G V H' out)) a V.w) : CallC P G f args H out H' := by
  intro V vs hH hG hargs
  refine callsIn_of_wp_marks hfn hb trivial (h V _ hH hG ⟨?_, hH, .nil⟩)
  have : EnvOk V (args ++ List.replicate (fn.ntmps - args.length) (.lit undef)) { tmps := (vs ++ List.replicate (fn.ntmps - args.length) undef).toArray, defers := [] } := by
    refine Reps.append hargs ?_
    have := Reps.lits (V := V) (List.replicate (fn.ntmps - args.length) undef)
    simpa using this
  have e : (vs ++ List.replicate (fn.ntmps - args.length) undef).toArray = vs.toArray ++ Array.replicate (fn.ntmps - vs.toArray.size) undef := by
    apply Array.ext'
    simp [hargs.1]
  rw [e] at this
  exact this

def tailF (P : Program) (G : Nat → Option (List AV)) (n0 : Nat) (fn : Func) (c : Code) (s : St) (orc : List Orc) : Option (AOut × List AObj × List Prop) :=
  match runC P G none n0 c s orc with
  | some (ex, s', orc', ps) => match finF P G n0 fn ex s' orc' with
    | some (out, H', qs) => some (out, H', ps ++ qs)
    | none => none
  | none => none
theorem tail_run {fn : Func} {n0 : Nat} {c : Code} {s : St} {out : AOut} {H' : List AObj} (l : List Itm) (h : tailF P G n0 fn c s (orcsOf l) = some (out, H', propsOf l)) {V0 V : View} {a : Act} (h0 : V0.H.length = n0) (hs : Step V0 V) (hG : HeapRep G V) (hok : StOk V s a) :
    c.wpIn (fz none) 0 P (bodyPostM Fence.wide 0 P fn (Goes G V0 H' out)) a V.w := by
  unfold tailF at h
  split at h
  · rename_i ex s' orc' ps hrun
    split at h
    · rename_i o1 H1 qs hfin
      injection h with h
      injection h with e1 h
      injection h with e2 e3
      subst e1 e2
      have hall := propsAll l
      rw [← e3] at hall
      obtain ⟨hp, hq⟩ := allP_append.1 hall
      refine Go.wpIn_mono (runC_sound (r := none) c hrun hp V0 V a h0 hs hG hok) ?_
      exact ends_goes (by rw [h0]; exact hfin) hq
    · cases h
  · cases h

theorem any_family {r : Option Nat} {ops : Array Oper} (J : Array Bool → List AV → List AObj → Prop) (Fin : List AV → List AObj → Prop)
    (hstep : ∀ listed env H, J listed env H → ∀ i ∈ Region.ready .any ops listed, ∃ o orc k x H' orc' ps, ops[i]? = some o ∧ stepA P G ops (guards ops i) env H o orc = some (k, .ret x, H', orc', ps) ∧ AllP ps ∧ J (listed.setIfInBounds i true) (putA env o.dst x) H')
    (hfin : ∀ listed env H, J listed env H → Region.ready .any ops listed = [] → Fin env H) {Q : Exit → Act → World → Prop} : ∀ (fuel : Nat) {listed : Array Bool} {env : List AV} {H : List AObj} {V : View} {a : Act}, J listed env H → listed.size = ops.size → listed.toList.count false ≤ fuel → HeapRep G V → V.H = H → EnvOk V env a →
    (∀ V' a' env' H', Step V V' → HeapRep G V' → V'.H = H' → EnvOk V' env' a' → a'.defers = a.defers → Fin env' H' → Q .normal a' V'.w) → wpAnyIn (fz r) 0 P .any ops Q fuel listed a V.w := by
  intro fuel
  induction fuel with
  | zero =>
    intro listed env H V a hJ hsz hc hG hH he hn
    have hr : Region.ready .any ops listed = [] := by
      cases hr : Region.ready .any ops listed with
      | nil => rfl
      | cons i is =>
        have hi : i ∈ Region.ready .any ops listed := by rw [hr]; simp
        obtain ⟨hun, o, ho, _⟩ := mem_ready.1 hi
        have his : i < listed.size := by rw [hsz]; exact (Array.getElem?_eq_some_iff.1 ho).1
        simp only [Array.getD_eq_getD_getElem?, Array.getElem?_eq_getElem his, Option.getD_some] at hun
        have : false ∈ listed.toList := by rw [← hun]; simp
        have := List.count_pos_iff.2 this
        omega
    exact ⟨hr, hn V a env H (Step.refl V) hG hH he rfl (hfin _ _ _ hJ hr)⟩
  | succ fuel ih =>
    intro listed env H V a hJ hsz hc hG hH he hn
    refine ⟨fun hr => hn V a env H (Step.refl V) hG hH he rfl (hfin _ _ _ hJ hr), fun i hi => ?_⟩
    obtain ⟨o, orc, k, x, H', orc', ps, ho, hst, hps, hJ'⟩ := hstep _ _ _ hJ i hi
    obtain ⟨h1, h2⟩ := stepA_sound (r := r) (a := a) ho hst hps hG (fun t _ => he.get t) (.inl hH)
    refine h1 _ Q (fun V' v x' hx hs hG' hH' hrep => ?_) (fun V' v x' hx => by cases hx)
    cases hx
    have hH1 : V'.H = H' := by
      rw [hH']
      split
      · rename_i hk; rw [hH, h2 (by rw [hk]; simp)]
      · rfl
    obtain ⟨hun, _⟩ := mem_ready.1 hi
    have his : i < listed.size := by rw [hsz]; exact (Array.getElem?_eq_some_iff.1 ho).1
    have his' : i < listed.toList.length := by simpa using his
    simp only [Array.getD_eq_getD_getElem?, Array.getElem?_eq_getElem his, Option.getD_some] at hun
    have hlf : listed.toList[i] = false := by simpa using hun
    have hpos : 0 < listed.toList.count false := List.count_pos_iff.2 (by rw [← hlf]; exact List.getElem_mem his')
    have e : (listed.setIfInBounds i true).toList.count false = listed.toList.count false - 1 := by
      rw [Array.toList_setIfInBounds, List.count_set his', hlf]
      rfl
    exact ih hJ' (by simpa using hsz) (by rw [e]; omega) hG' hH1 ((he.step hs).put o.dst hrep)
      (fun V2 a2 env2 H2 s2 g2 hh2 e2 d2 f2 => hn V2 a2 env2 H2 (hs.trans s2) g2 hh2 e2 (d2.trans (put_def _ _ _)) f2)
theorem region_family {r : Option Nat} {id : Nat} {ops : Array Oper} (J : Array Bool → List AV → List AObj → Prop) (Fin : List AV → List AObj → Prop) 
    (hstep : ∀ listed env H, J listed env H → ∀ i ∈ Region.ready .any ops listed, ∃ o orc k x H' orc' ps, ops[i]? = some o ∧ stepA P G ops (guards ops i) env H o orc = some (k, .ret x, H', orc', ps) ∧ AllP ps ∧ J (listed.setIfInBounds i true) (putA env o.dst x) H')
    (hfin : ∀ listed env H, J listed env H → Region.ready .any ops listed = [] → Fin env H) {Q : Exit → Act → World → Prop} {s : St} {V : View} {a : Act} (h0 : J (Array.replicate ops.size false) s.env s.H) (hm : P.follows .mixedOrders = true) (hG : HeapRep G V) (hok : StOk V s a)
    (hn : ∀ V' a' env' H', Step V V' → HeapRep G V' → StOk V' { env := env', H := H', defs := s.defs } a' → Fin env' H' → Q .normal a' V'.w) : (Code.region id ops true).wpIn (fz r) 0 P Q a V.w := by
  refine wpIn_region_any hm ?_
  obtain ⟨Vd, d1, d2, d3, d4, d5, d6⟩ := step_calm (V := V) hG (w' := { V.w with drawn := V.w.drawn + 1 }) rfl rfl rfl rfl
  rw [← d1]
  refine any_family J Fin hstep hfin ops.size h0 (by simp) (by simp) d6 (d2.trans hok.H) (hok.env.step d5) ?_
  intro V' a' env' H' s' g' h' e' dd f'
  exact hn V' a' env' H' (d5.trans s') g' ⟨e', h', dd ▸ hok.defs.step (d5.trans s')⟩ f'
end
end Go.Am

/- SEQUENCE, 14: the comparison of two cells (descending's closure), its two arrays made in either order. -/
namespace Go.Sq
open Go Go.Am Go.Proofs Go.Seat

def opsOf : Code → Array Oper
  | .region _ o _ => o
  | _ => #[]
noncomputable def ops41 : Array Oper := opsOf (Code.hd (Code.tl (bodyOf P 41)))
def depsOf (ops : Array Oper) : List (List Nat) := ops.toList.map fun o => ((o.after.toList.filter (Region.binds .any)).map (·.on)).eraseDups
theorem deps41 : depsOf ops41 = [[], [], [0, 1], [], [], [3, 4, 2], [], [], [6, 2, 5, 0, 1, 7], [7, 5, 8, 0, 1, 2, 3, 4, 6]] := by kernel_rfl
theorem ready_deps {ops : Array Oper} {listed : Array Bool} {i : Nat} (h : i ∈ Region.ready .any ops listed) : listed.getD i true = false ∧ i < ops.size ∧ ∀ j ∈ (depsOf ops).getD i [], listed.getD j false = true := by
  obtain ⟨h1, o, ho, h2⟩ := mem_ready.1 h
  have hlt := (Array.getElem?_eq_some_iff.1 ho).1
  refine ⟨h1, hlt, fun j hj => ?_⟩
  unfold depsOf at hj
  rw [List.getD_eq_getElem?_getD, List.getElem?_map] at hj
  have : ops.toList[i]? = some o := by simpa using ho
  rw [this] at hj
  simp only [Option.map_some, Option.getD_some, List.mem_eraseDups, List.mem_map, List.mem_filter] at hj
  obtain ⟨e, ⟨he, hb⟩, rfl⟩ := hj
  exact h2 e (by simpa using he) hb

def sv (c : CE) : List AV := [int c.tm, int c.dv, int c.sq, int c.at']
def z4 : AObj := .box [int 0, int 0, int 0, int 0]
def bx (l : Bool) (c : CE) : AObj := if l = true then .box (sv c) else z4
def und : AV := .lit undef
def env41 (x y : CE) (e6 e7 e8 e9 e10 e11 e12 e13 : AV) : List AV := [cel x, cel y, .imm [fnV 32], .ptr 0 0, .ptr 1 0, int 0, e6, e7, e8, e9, e10, e11, e12, e13, und, und, und, und]
structure J41 (x y : CE) (listed : Array Bool) (env : List AV) (H : List AObj) : Prop where
  ex : ∃ l0 l1 l2 l3 l4 l5 l6 l7 l8 l9 e6 e7 e8 e9 e10 e11 e12 e13 T, listed = #[l0, l1, l2, l3, l4, l5, l6, l7, l8, l9] ∧ env = env41 x y e6 e7 e8 e9 e10 e11 e12 e13 ∧ H = .box (enc x) :: .box (enc y) :: T ∧
    (l0 = true → e8 = fnV 32) ∧ (l1 = true → e9 = cel x) ∧ (l2 = true → e10 = .agg (sv x)) ∧ (l3 = true → e11 = fnV 32) ∧ (l4 = true → e12 = cel y) ∧ (l5 = true → e13 = .agg (sv y)) ∧ (l6 = false ∨ l7 = false → l8 = false) ∧ (l8 = false → l9 = false) ∧
    ((l6 = false ∧ l7 = false ∧ T = []) ∨ (l6 = true ∧ l7 = false ∧ e6 = .ptr 2 0 ∧ T = [z4]) ∨ (l6 = false ∧ l7 = true ∧ e7 = .ptr 2 0 ∧ T = [z4]) ∨
      (l6 = true ∧ l7 = true ∧ ((e6 = .ptr 2 0 ∧ e7 = .ptr 3 0 ∧ T = [bx l8 x, bx l9 y]) ∨ (e6 = .ptr 3 0 ∧ e7 = .ptr 2 0 ∧ T = [bx l9 y, bx l8 x]))))
noncomputable def op41 (i : Nat) : Oper := ops41.toList.getD i default
theorem step41 (x y : CE) : ∀ listed env H, J41 x y listed env H → ∀ i ∈ Region.ready .any ops41 listed, ∃ o orc k z H' orc' ps, ops41[i]? = some o ∧ stepA P G ops41 (guards ops41 i) env H o orc = some (k, .ret z, H', orc', ps) ∧ AllP ps ∧ J41 x y (listed.setIfInBounds i true) (putA env o.dst z) H' := by
  intro listed env H hJ i hi
  obtain ⟨h1, h2, h3⟩ := ready_deps hi
  rw [deps41] at h3
  obtain ⟨l0, l1, l2, l3, l4, l5, l6, l7, l8, l9, e6, e7, e8, e9, e10, e11, e12, e13, T, rfl, rfl, rfl, k0, k1, k2, k3, k4, k5, kb, kc, kT⟩ := hJ.ex
  have hsz : ops41.size = 10 := by kernel_rfl
  have hi10 : i < 10 := by omega
  have hcx : CallC P G 32 [cel x] [] (.ret (.agg (sv x))) [] := stamp_c x
  have hcy : CallC P G 32 [cel y] [] (.ret (.agg (sv y))) [] := stamp_c y
  have b8 : l6 = false ∨ l7 = false → l8 = false := kb
  have b9 : l8 = false → l9 = false := kc
  match i, hi10 with
  | 0, _ =>
    exact ⟨op41 0, [], .free, fnV 32, _, [], [], by kernel_rfl, (by kernel_rfl : stepA P G ops41 (guards ops41 0) (env41 x y e6 e7 e8 e9 e10 e11 e12 e13) (.box (enc x) :: .box (enc y) :: T) (op41 0) [] = some (.free, .ret (fnV 32), (.box (enc x) :: .box (enc y) :: T), [], [])), trivial, ⟨_, _, _, _, _, _, _, _, _, _, e6, e7, fnV 32, e9, e10, e11, e12, e13, T, rfl, (by kernel_rfl : putA (env41 x y e6 e7 e8 e9 e10 e11 e12 e13) (op41 0).dst (fnV 32) = (env41 x y e6 e7 (fnV 32) e9 e10 e11 e12 e13)), rfl, fun _ => rfl, k1, k2, k3, k4, k5, kb, kc, kT⟩⟩
  | 1, _ =>
    exact ⟨op41 1, [], .read, cel x, _, [], [], by kernel_rfl, (by kernel_rfl : stepA P G ops41 (guards ops41 1) (env41 x y e6 e7 e8 e9 e10 e11 e12 e13) (.box (enc x) :: .box (enc y) :: T) (op41 1) [] = some (.read, .ret (cel x), (.box (enc x) :: .box (enc y) :: T), [], [])), trivial, ⟨_, _, _, _, _, _, _, _, _, _, e6, e7, e8, cel x, e10, e11, e12, e13, T, rfl, (by kernel_rfl : putA (env41 x y e6 e7 e8 e9 e10 e11 e12 e13) (op41 1).dst (cel x) = (env41 x y e6 e7 e8 (cel x) e10 e11 e12 e13)), rfl, k0, fun _ => rfl, k2, k3, k4, k5, kb, kc, kT⟩⟩
  | 2, _ =>
    obtain rfl := k0 (h3 0 (by decide))
    obtain rfl := k1 (h3 1 (by decide))
    exact ⟨op41 2, [.call [] (.ret (.agg (sv x))) []], .free, .agg (sv x), _, [], [CallC P G 32 [cel x] [] (.ret (.agg (sv x))) []], by kernel_rfl, (by kernel_rfl : stepA P G ops41 (guards ops41 2) (env41 x y e6 e7 (fnV 32) (cel x) e10 e11 e12 e13) (.box (enc x) :: .box (enc y) :: T) (op41 2) [.call [] (.ret (.agg (sv x))) []] = some (.free, .ret (.agg (sv x)), (.box (enc x) :: .box (enc y) :: T), [], [CallC P G 32 [cel x] [] (.ret (.agg (sv x))) []])), ⟨hcx, trivial⟩, ⟨_, _, _, _, _, _, _, _, _, _, e6, e7, (fnV 32), (cel x), (.agg (sv x)), e11, e12, e13, T, rfl, (by kernel_rfl : putA (env41 x y e6 e7 (fnV 32) (cel x) e10 e11 e12 e13) (op41 2).dst (.agg (sv x)) = (env41 x y e6 e7 (fnV 32) (cel x) (.agg (sv x)) e11 e12 e13)), rfl, fun _ => rfl, fun _ => rfl, fun _ => rfl, k3, k4, k5, kb, kc, kT⟩⟩
  | 3, _ =>
    exact ⟨op41 3, [], .free, fnV 32, _, [], [], by kernel_rfl, (by kernel_rfl : stepA P G ops41 (guards ops41 3) (env41 x y e6 e7 e8 e9 e10 e11 e12 e13) (.box (enc x) :: .box (enc y) :: T) (op41 3) [] = some (.free, .ret (fnV 32), (.box (enc x) :: .box (enc y) :: T), [], [])), trivial, ⟨_, _, _, _, _, _, _, _, _, _, e6, e7, e8, e9, e10, fnV 32, e12, e13, T, rfl, (by kernel_rfl : putA (env41 x y e6 e7 e8 e9 e10 e11 e12 e13) (op41 3).dst (fnV 32) = (env41 x y e6 e7 e8 e9 e10 (fnV 32) e12 e13)), rfl, k0, k1, k2, fun _ => rfl, k4, k5, kb, kc, kT⟩⟩
  | 4, _ =>
    exact ⟨op41 4, [], .read, cel y, _, [], [], by kernel_rfl, (by kernel_rfl : stepA P G ops41 (guards ops41 4) (env41 x y e6 e7 e8 e9 e10 e11 e12 e13) (.box (enc x) :: .box (enc y) :: T) (op41 4) [] = some (.read, .ret (cel y), (.box (enc x) :: .box (enc y) :: T), [], [])), trivial, ⟨_, _, _, _, _, _, _, _, _, _, e6, e7, e8, e9, e10, e11, cel y, e13, T, rfl, (by kernel_rfl : putA (env41 x y e6 e7 e8 e9 e10 e11 e12 e13) (op41 4).dst (cel y) = (env41 x y e6 e7 e8 e9 e10 e11 (cel y) e13)), rfl, k0, k1, k2, k3, fun _ => rfl, k5, kb, kc, kT⟩⟩
  | 5, _ =>
    obtain rfl := k3 (h3 3 (by decide))
    obtain rfl := k4 (h3 4 (by decide))
    exact ⟨op41 5, [.call [] (.ret (.agg (sv y))) []], .free, .agg (sv y), _, [], [CallC P G 32 [cel y] [] (.ret (.agg (sv y))) []], by kernel_rfl, (by kernel_rfl : stepA P G ops41 (guards ops41 5) (env41 x y e6 e7 e8 e9 e10 (fnV 32) (cel y) e13) (.box (enc x) :: .box (enc y) :: T) (op41 5) [.call [] (.ret (.agg (sv y))) []] = some (.free, .ret (.agg (sv y)), (.box (enc x) :: .box (enc y) :: T), [], [CallC P G 32 [cel y] [] (.ret (.agg (sv y))) []])), ⟨hcy, trivial⟩, ⟨_, _, _, _, _, _, _, _, _, _, e6, e7, e8, e9, e10, (fnV 32), (cel y), (.agg (sv y)), T, rfl, (by kernel_rfl : putA (env41 x y e6 e7 e8 e9 e10 (fnV 32) (cel y) e13) (op41 5).dst (.agg (sv y)) = (env41 x y e6 e7 e8 e9 e10 (fnV 32) (cel y) (.agg (sv y)))), rfl, k0, k1, k2, fun _ => rfl, fun _ => rfl, fun _ => rfl, kb, kc, kT⟩⟩
  | 6, _ =>
    have hf : l6 = false := h1
    subst hf
    rcases kT with ⟨_, q, rfl⟩ | ⟨p, q, r, rfl⟩ | ⟨p, q, r, rfl⟩ | ⟨p, q, _⟩
    · exact ⟨op41 6, [], .eff, .ptr 2 0, _, [], [], by kernel_rfl, (by kernel_rfl : stepA P G ops41 (guards ops41 6) (env41 x y e6 e7 e8 e9 e10 e11 e12 e13) [.box (enc x), .box (enc y)] (op41 6) [] = some (.eff, .ret (.ptr 2 0), [.box (enc x), .box (enc y), z4], [], [])), trivial, ⟨_, _, _, _, _, _, _, _, _, _, (.ptr 2 0), e7, e8, e9, e10, e11, e12, e13, _, rfl, (by kernel_rfl : putA (env41 x y e6 e7 e8 e9 e10 e11 e12 e13) (op41 6).dst (.ptr 2 0) = (env41 x y (.ptr 2 0) e7 e8 e9 e10 e11 e12 e13)), rfl, k0, k1, k2, k3, k4, k5, fun _ => b8 (.inl rfl), b9, .inr (.inl ⟨rfl, q, rfl, rfl⟩)⟩⟩
    · cases p
    · subst r q
      have e8 : l8 = false := b8 (.inl rfl)
      have e9 : l9 = false := b9 e8
      subst e8 e9
      exact ⟨op41 6, [], .eff, .ptr 3 0, _, [], [], by kernel_rfl, (by kernel_rfl : stepA P G ops41 (guards ops41 6) (env41 x y e6 (.ptr 2 0) e8 e9 e10 e11 e12 e13) [.box (enc x), .box (enc y), z4] (op41 6) [] = some (.eff, .ret (.ptr 3 0), [.box (enc x), .box (enc y), z4, z4], [], [])), trivial, ⟨_, _, _, _, _, _, _, _, _, _, (.ptr 3 0), (.ptr 2 0), e8, e9, e10, e11, e12, e13, _, rfl, (by kernel_rfl : putA (env41 x y e6 (.ptr 2 0) e8 e9 e10 e11 e12 e13) (op41 6).dst (.ptr 3 0) = (env41 x y (.ptr 3 0) (.ptr 2 0) e8 e9 e10 e11 e12 e13)), rfl, k0, k1, k2, k3, k4, k5, fun _ => rfl, fun _ => rfl, .inr (.inr (.inr ⟨rfl, rfl, .inr ⟨rfl, rfl, rfl⟩⟩))⟩⟩
    · cases p
  | 7, _ =>
    have hf : l7 = false := h1
    subst hf
    rcases kT with ⟨_, q, rfl⟩ | ⟨p, q, r, rfl⟩ | ⟨p, q, r, rfl⟩ | ⟨p, q, _⟩
    · exact ⟨op41 7, [], .eff, .ptr 2 0, _, [], [], by kernel_rfl, (by kernel_rfl : stepA P G ops41 (guards ops41 7) (env41 x y e6 e7 e8 e9 e10 e11 e12 e13) [.box (enc x), .box (enc y)] (op41 7) [] = some (.eff, .ret (.ptr 2 0), [.box (enc x), .box (enc y), z4], [], [])), trivial, ⟨_, _, _, _, _, _, _, _, _, _, e6, (.ptr 2 0), e8, e9, e10, e11, e12, e13, _, rfl, (by kernel_rfl : putA (env41 x y e6 e7 e8 e9 e10 e11 e12 e13) (op41 7).dst (.ptr 2 0) = (env41 x y e6 (.ptr 2 0) e8 e9 e10 e11 e12 e13)), rfl, k0, k1, k2, k3, k4, k5, fun _ => b8 (.inr rfl), b9, .inr (.inr (.inl ⟨by assumption, rfl, rfl, rfl⟩))⟩⟩
    · subst r p
      have e8 : l8 = false := b8 (.inr rfl)
      have e9 : l9 = false := b9 e8
      subst e8 e9
      exact ⟨op41 7, [], .eff, .ptr 3 0, _, [], [], by kernel_rfl, (by kernel_rfl : stepA P G ops41 (guards ops41 7) (env41 x y (.ptr 2 0) e7 e8 e9 e10 e11 e12 e13) [.box (enc x), .box (enc y), z4] (op41 7) [] = some (.eff, .ret (.ptr 3 0), [.box (enc x), .box (enc y), z4, z4], [], [])), trivial, ⟨_, _, _, _, _, _, _, _, _, _, (.ptr 2 0), (.ptr 3 0), e8, e9, e10, e11, e12, e13, _, rfl, (by kernel_rfl : putA (env41 x y (.ptr 2 0) e7 e8 e9 e10 e11 e12 e13) (op41 7).dst (.ptr 3 0) = (env41 x y (.ptr 2 0) (.ptr 3 0) e8 e9 e10 e11 e12 e13)), rfl, k0, k1, k2, k3, k4, k5, fun _ => rfl, fun _ => rfl, .inr (.inr (.inr ⟨rfl, rfl, .inl ⟨rfl, rfl, rfl⟩⟩))⟩⟩
    · cases q
    · cases q
  | 8, _ =>
    have hf : l8 = false := h1
    subst hf
    have t6 : l6 = true := h3 6 (by decide)
    have t7 : l7 = true := h3 7 (by decide)
    obtain rfl := k2 (h3 2 (by decide))
    subst t6 t7
    rcases kT with ⟨p, _⟩ | ⟨_, q, _⟩ | ⟨p, _⟩ | ⟨_, _, ⟨rfl, rfl, rfl⟩ | ⟨rfl, rfl, rfl⟩⟩
    · cases p
    · cases q
    · cases p
    · exact ⟨op41 8, [], .eff, und, _, [], [], by kernel_rfl, (by kernel_rfl : stepA P G ops41 (guards ops41 8) (env41 x y (.ptr 2 0) (.ptr 3 0) e8 e9 (.agg (sv x)) e11 e12 e13) [.box (enc x), .box (enc y), bx false x, bx l9 y] (op41 8) [] = some (.eff, .ret und, [.box (enc x), .box (enc y), bx true x, bx l9 y], [], [])), trivial, ⟨_, _, _, _, _, _, _, _, _, _, (.ptr 2 0), (.ptr 3 0), e8, e9, (.agg (sv x)), e11, e12, e13, _, rfl, (by kernel_rfl : putA (env41 x y (.ptr 2 0) (.ptr 3 0) e8 e9 (.agg (sv x)) e11 e12 e13) (op41 8).dst und = (env41 x y (.ptr 2 0) (.ptr 3 0) e8 e9 (.agg (sv x)) e11 e12 e13)), rfl, k0, k1, fun _ => rfl, k3, k4, k5, fun h => (by rcases h with h | h <;> cases h), fun h => (by cases h), .inr (.inr (.inr ⟨rfl, rfl, .inl ⟨rfl, rfl, rfl⟩⟩))⟩⟩
    · exact ⟨op41 8, [], .eff, und, _, [], [], by kernel_rfl, (by kernel_rfl : stepA P G ops41 (guards ops41 8) (env41 x y (.ptr 3 0) (.ptr 2 0) e8 e9 (.agg (sv x)) e11 e12 e13) [.box (enc x), .box (enc y), bx l9 y, bx false x] (op41 8) [] = some (.eff, .ret und, [.box (enc x), .box (enc y), bx l9 y, bx true x], [], [])), trivial, ⟨_, _, _, _, _, _, _, _, _, _, (.ptr 3 0), (.ptr 2 0), e8, e9, (.agg (sv x)), e11, e12, e13, _, rfl, (by kernel_rfl : putA (env41 x y (.ptr 3 0) (.ptr 2 0) e8 e9 (.agg (sv x)) e11 e12 e13) (op41 8).dst und = (env41 x y (.ptr 3 0) (.ptr 2 0) e8 e9 (.agg (sv x)) e11 e12 e13)), rfl, k0, k1, fun _ => rfl, k3, k4, k5, fun h => (by rcases h with h | h <;> cases h), fun h => (by cases h), .inr (.inr (.inr ⟨rfl, rfl, .inr ⟨rfl, rfl, rfl⟩⟩))⟩⟩
  | 9, _ =>
    have hf : l9 = false := h1
    subst hf
    have t6 : l6 = true := h3 6 (by decide)
    have t7 : l7 = true := h3 7 (by decide)
    obtain rfl := k5 (h3 5 (by decide))
    subst t6 t7
    have t8 : l8 = true := h3 8 (by decide)
    subst t8
    rcases kT with ⟨p, _⟩ | ⟨_, q, _⟩ | ⟨p, _⟩ | ⟨_, _, ⟨rfl, rfl, rfl⟩ | ⟨rfl, rfl, rfl⟩⟩
    · cases p
    · cases q
    · cases p
    · exact ⟨op41 9, [], .eff, und, _, [], [], by kernel_rfl, (by kernel_rfl : stepA P G ops41 (guards ops41 9) (env41 x y (.ptr 2 0) (.ptr 3 0) e8 e9 e10 e11 e12 (.agg (sv y))) [.box (enc x), .box (enc y), bx true x, bx false y] (op41 9) [] = some (.eff, .ret und, [.box (enc x), .box (enc y), bx true x, bx true y], [], [])), trivial, ⟨_, _, _, _, _, _, _, _, _, _, (.ptr 2 0), (.ptr 3 0), e8, e9, e10, e11, e12, (.agg (sv y)), _, rfl, (by kernel_rfl : putA (env41 x y (.ptr 2 0) (.ptr 3 0) e8 e9 e10 e11 e12 (.agg (sv y))) (op41 9).dst und = (env41 x y (.ptr 2 0) (.ptr 3 0) e8 e9 e10 e11 e12 (.agg (sv y)))), rfl, k0, k1, k2, k3, k4, fun _ => rfl, kb, fun h => (by cases h), .inr (.inr (.inr ⟨rfl, rfl, .inl ⟨rfl, rfl, rfl⟩⟩))⟩⟩
    · exact ⟨op41 9, [], .eff, und, _, [], [], by kernel_rfl, (by kernel_rfl : stepA P G ops41 (guards ops41 9) (env41 x y (.ptr 3 0) (.ptr 2 0) e8 e9 e10 e11 e12 (.agg (sv y))) [.box (enc x), .box (enc y), bx false y, bx true x] (op41 9) [] = some (.eff, .ret und, [.box (enc x), .box (enc y), bx true y, bx true x], [], [])), trivial, ⟨_, _, _, _, _, _, _, _, _, _, (.ptr 3 0), (.ptr 2 0), e8, e9, e10, e11, e12, (.agg (sv y)), _, rfl, (by kernel_rfl : putA (env41 x y (.ptr 3 0) (.ptr 2 0) e8 e9 e10 e11 e12 (.agg (sv y))) (op41 9).dst und = (env41 x y (.ptr 3 0) (.ptr 2 0) e8 e9 e10 e11 e12 (.agg (sv y)))), rfl, k0, k1, k2, k3, k4, fun _ => rfl, kb, fun h => (by cases h), .inr (.inr (.inr ⟨rfl, rfl, .inr ⟨rfl, rfl, rfl⟩⟩))⟩⟩
  | n + 10, h => exact absurd h (by omega)

theorem none_ready {ops : Array Oper} {listed : Array Bool} (hr : Region.ready .any ops listed = []) (hsz : listed.size = ops.size) {i : Nat} (hi : i < ops.size) (h : ∀ j ∈ (depsOf ops).getD i [], listed.getD j false = true) : listed.getD i true = true := by
  cases hl : listed.getD i true with
  | true => rfl
  | false =>
    have : i ∈ Region.ready .any ops listed := mem_ready.2 ⟨hl, ops[i], by simp [hi], fun e he hb => by
      refine h e.on ?_
      unfold depsOf
      rw [List.getD_eq_getElem?_getD, List.getElem?_map]
      have : ops.toList[i]? = some ops[i] := by simp [hi]
      rw [this]
      simp only [Option.map_some, Option.getD_some, List.mem_eraseDups, List.mem_map, List.mem_filter]
      exact ⟨e, ⟨by simpa using he, hb⟩, rfl⟩⟩
    rw [hr] at this
    cases this
def fin41 (x y : CE) (p q : AV) : List AV := env41 x y p q (fnV 32) (cel x) (.agg (sv x)) (fnV 32) (cel y) (.agg (sv y))
def Fin41 (x y : CE) (env : List AV) (H : List AObj) : Prop :=
  (env = fin41 x y (.ptr 2 0) (.ptr 3 0) ∧ H = [.box (enc x), .box (enc y), .box (sv x), .box (sv y)]) ∨ (env = fin41 x y (.ptr 3 0) (.ptr 2 0) ∧ H = [.box (enc x), .box (enc y), .box (sv y), .box (sv x)])
theorem end41 (x y : CE) : ∀ listed env H, J41 x y listed env H → Region.ready .any ops41 listed = [] → Fin41 x y env H := by
  intro listed env H hJ hr
  obtain ⟨l0, l1, l2, l3, l4, l5, l6, l7, l8, l9, e6, e7, e8, e9, e10, e11, e12, e13, T, rfl, rfl, rfl, k0, k1, k2, k3, k4, k5, kb, kc, kT⟩ := hJ.ex
  have hsz : ops41.size = 10 := by kernel_rfl
  have key := fun (i : Nat) (hi : i < 10) => none_ready (i := i) hr (by rw [hsz]; rfl) (by rw [hsz]; exact hi)
  rw [deps41] at key
  obtain rfl : l0 = true := key 0 (by decide) (fun j hj => by cases hj)
  obtain rfl : l1 = true := key 1 (by decide) (fun j hj => by cases hj)
  obtain rfl : l3 = true := key 3 (by decide) (fun j hj => by cases hj)
  obtain rfl : l4 = true := key 4 (by decide) (fun j hj => by cases hj)
  obtain rfl : l6 = true := key 6 (by decide) (fun j hj => by cases hj)
  obtain rfl : l7 = true := key 7 (by decide) (fun j hj => by cases hj)
  obtain rfl : l2 = true := key 2 (by decide) (fun j hj => by
    have : j = 0 ∨ j = 1 := by simpa using hj
    rcases this with rfl | rfl <;> rfl)
  obtain rfl : l5 = true := key 5 (by decide) (fun j hj => by
    have : j = 3 ∨ j = 4 ∨ j = 2 := by simpa using hj
    rcases this with rfl | rfl | rfl <;> rfl)
  obtain rfl : l8 = true := key 8 (by decide) (fun j hj => by
    have : j = 6 ∨ j = 2 ∨ j = 5 ∨ j = 0 ∨ j = 1 ∨ j = 7 := by simpa using hj
    rcases this with rfl | rfl | rfl | rfl | rfl | rfl <;> rfl)
  obtain rfl : l9 = true := key 9 (by decide) (fun j hj => by
    have : j = 7 ∨ j = 5 ∨ j = 8 ∨ j = 0 ∨ j = 1 ∨ j = 2 ∨ j = 3 ∨ j = 4 ∨ j = 6 := by simpa using hj
    rcases this with rfl | rfl | rfl | rfl | rfl | rfl | rfl | rfl | rfl <;> rfl)
  obtain rfl := k0 rfl
  obtain rfl := k1 rfl
  obtain rfl := k2 rfl
  obtain rfl := k3 rfl
  obtain rfl := k4 rfl
  obtain rfl := k5 rfl
  rcases kT with ⟨p, _⟩ | ⟨_, q, _⟩ | ⟨p, _⟩ | ⟨_, _, ⟨rfl, rfl, rfl⟩ | ⟨rfl, rfl, rfl⟩⟩
  · cases p
  · cases q
  · cases p
  · exact .inl ⟨rfl, rfl⟩
  · exact .inr ⟨rfl, rfl⟩

noncomputable def fn41 : Func := (P.funcs[41]?).getD default
noncomputable def tl41 : Code := Code.tl (Code.tl (bodyOf P 41))
def st41 (x y : CE) : St := { env := env41 x y und und und und und und und und, H := [.box (enc x), .box (enc y)] }
theorem hd41 (x y : CE) : PieceC P G none 0 (Code.hd (bodyOf P 41)) { env := [cel x, cel y, .imm [fnV 32]] ++ List.replicate (fn41.ntmps - 3) (.lit undef), H := [] } (st41 x y) := piece_of [] [] 2 (by kernel_rfl)
def cfD (x y : CE) : Int := IntKind.i64.wrap (0 - cmp4 x.tm x.dv x.sq x.at' y.tm y.dv y.sq y.at')
theorem tail41 (x y : CE) (p q : AV) (H : List AObj) (h : (p = .ptr 2 0 ∧ q = .ptr 3 0 ∧ H = [.box (enc x), .box (enc y), .box (sv x), .box (sv y)]) ∨ (p = .ptr 3 0 ∧ q = .ptr 2 0 ∧ H = [.box (enc x), .box (enc y), .box (sv y), .box (sv x)])) :
    tailF P G 0 fn41 tl41 ⟨fin41 x y p q, H, []⟩ (orcsOf [kc [] (cff_c x.tm x.dv x.sq x.at' y.tm y.dv y.sq y.at')]) = some (.ret (int (cfD x y)), [], propsOf [kc [] (cff_c x.tm x.dv x.sq x.at' y.tm y.dv y.sq y.at')]) := by
  rcases h with ⟨rfl, rfl, rfl⟩ | ⟨rfl, rfl, rfl⟩
  · kernel_rfl
  · kernel_rfl
theorem clos_c (x y : CE) : CallC P G 41 [cel x, cel y, .imm [fnV 32]] [] (.ret (int (cfD x y))) [] := by
  have hfn : P.funcs[41]? = some fn41 := by kernel_rfl
  have hb : fn41.body = some (.seq (Code.hd (bodyOf P 41)) (.seq (.region 1 ops41 true) tl41)) := by kernel_rfl
  refine callC_sem hfn hb fun V a hH hG hok => ?_
  have h0 : V.H.length = 0 := by rw [hH]; rfl
  refine PieceC.seq (hd41 x y) h0 (Step.refl V) hG hok fun V1 a1 s1 g1 k1 => ?_
  refine Go.wpIn_seq (region_family (J41 x y) (Fin41 x y) (step41 x y) (end41 x y) (s := st41 x y) ?_ (by kernel_rfl) g1 k1 fun V2 a2 env2 H2 s2 g2 k2 f2 => ?_)
  · exact ⟨_, _, _, _, _, _, _, _, _, _, _, _, _, _, _, _, _, _, [], (by kernel_rfl : Array.replicate ops41.size false = #[false, false, false, false, false, false, false, false, false, false]), rfl, rfl, fun h => (by cases h), fun h => (by cases h), fun h => (by cases h), fun h => (by cases h), fun h => (by cases h), fun h => (by cases h), fun _ => rfl, fun _ => rfl, .inl ⟨rfl, rfl, rfl⟩⟩
  · rcases f2 with ⟨rfl, rfl⟩ | ⟨rfl, rfl⟩
    · exact tail_run _ (tail41 x y _ _ _ (.inl ⟨rfl, rfl, rfl⟩)) h0 (s1.trans s2) g2 k2
    · exact tail_run _ (tail41 x y _ _ _ (.inr ⟨rfl, rfl, rfl⟩)) h0 (s1.trans s2) g2 k2
end Go.Sq
