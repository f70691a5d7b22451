import Derived.Test.YtihbnnkcemjflaaGreatDoorG15
import Derived.Sort.Grow
import Derived.Deep.Draws
set_option maxRecDepth 100000
set_option linter.unusedSimpArgs false
set_option linter.unusedVariables false

namespace Go.Am
open Go
theorem step_grow {V V':View} (hs:Step V V') (hM:∀ b,¬ V.M b):∃ q os',V'.w=Sort.grow (V.w.drewN q) os':=by
 refine ⟨V'.w.drawn - V.w.drawn,V'.w.heap.extract V.w.heap.size V'.w.heap.size,?_⟩
 have hd:=hs.drawn
 have hh:V'.w.heap=V.w.heap++V'.w.heap.extract V.w.heap.size V'.w.heap.size:=by
  apply Array.ext_getElem?
  intro i
  by_cases h:i<V.w.heap.size
  · rw [Array.getElem?_append_left h]
    exact (hs.data i h (hM i)).1
  · rw [Array.getElem?_append_right (by omega),Array.getElem?_extract]
    have hz:=hs.size
    by_cases h2:i<V'.w.heap.size
    · rw [if_pos (by omega)]; congr 1; omega
    · rw [if_neg (by omega),Array.getElem?_eq_none (by omega)]
 have h1:=hs.os; have h2:=hs.tape; have h3:=hs.output
 generalize V'.w=w' at *
 cases w' with
 | mk heap tape drawn os output =>
 simp only at hh hd h1 h2 h3
 subst h1 h2 h3
 simp only [Sort.grow,World.drewN]
 rw [← hh]
 congr 1
 omega
theorem grow_calls {P:Program} {G:Nat→Option (List AV)} {f:FuncId} {xs:List AV} {args:Array Value} {W:World} {y:AV} (hc:CallC P G f xs [] (.ret y) []) (hG:∀ g cs,G g=some cs→PRep W (fun _=>False) (.imm cs) (.pointer (some ⟨g,0,none⟩)))
 (hx:Reps (view0 W) xs args.toList):Calls P f args W fun e W'=>∃ v q os',e = .returned v∧(∃ V':View,V'.w=W'∧Rep V' y v)∧W'=Sort.grow (W.drewN q) os':=by
 have h0:HeapRep G (view0 W):=⟨fun _ h=>absurd h (by simp [view0]),fun _ _ h=>by simp [view0] at h,fun _ _ h=>absurd h (by simp [view0]),fun _ _ h=>by simp [view0] at h,hG⟩
 have h:=hc (view0 W) args.toList rfl h0 hx
 have ea:args.toList.toArray=args:=by simp
 rw [ea] at h
 exact (h.calls room_wide).mono fun e w' he=>by
  obtain ⟨V',rfl,k2,k3,k4,k5⟩:=he
  obtain ⟨q,os',hg⟩:=step_grow k2 (fun _ h=>h)
  cases e with
  | returned v=>exact ⟨v,q,os',rfl,⟨V',rfl,k5⟩,hg⟩
  | panicked _=>exact k5.elim
  | outgrown=>exact k5.elim
end Go.Am


namespace Go.Am
open Go
section
variable {P:Program} {G:Nat→Option (List AV)}
theorem callC_sem {f:FuncId} {fn:Func} {c:Code} {args:List AV} {H:List AObj} {out:AOut} {H':List AObj} (hfn:P.funcs[f]? = some fn) (hb:fn.body=some c)
 (h:∀ V a,V.H=H→HeapRep G V→StOk V { env:=args++List.replicate (fn.ntmps - args.length) (.lit undef),H:=H } a→c.wpIn (fz none) 0 P (bodyPostM Fence.wide 0 P fn (Goes G V H' out)) a V.w):CallC P G f args H out H':=by
 intro V vs hH hG hargs
 refine callsIn_of_wp_marks hfn hb trivial (h V _ hH hG ⟨?_,hH,.nil⟩)
 have:EnvOk V (args++List.replicate (fn.ntmps - args.length) (.lit undef)) { tmps:=(vs++List.replicate (fn.ntmps - args.length) undef).toArray,defers:=[] }:=by
  refine Reps.append hargs ?_
  have:=Reps.lits (V:=V) (List.replicate (fn.ntmps - args.length) undef)
  simpa using this
 have e:(vs++List.replicate (fn.ntmps - args.length) undef).toArray=vs.toArray++Array.replicate (fn.ntmps - vs.toArray.size) undef:=by
  apply Array.ext'
  simp [hargs.1]
 rw [e] at this
 exact this
def tailF (P:Program) (G:Nat→Option (List AV)) (n0:Nat) (fn:Func) (c:Code) (s:St) (orc:List Orc):Option (AOut × List AObj × List Prop) :=
 match runC P G none n0 c s orc with
 | some (ex,s',orc',ps)=>match finF P G n0 fn ex s' orc' with
  | some (out,H',qs)=>some (out,H',ps++qs)
  | none=>none
 | none=>none
theorem tail_run {fn:Func} {n0:Nat} {c:Code} {s:St} {out:AOut} {H':List AObj} (l:List Itm) (h:tailF P G n0 fn c s (orcsOf l)=some (out,H',propsOf l)) {V0 V:View} {a:Act} (h0:V0.H.length=n0) (hs:Step V0 V) (hG:HeapRep G V) (hok:StOk V s a) :
 c.wpIn (fz none) 0 P (bodyPostM Fence.wide 0 P fn (Goes G V0 H' out)) a V.w:=by
 unfold tailF at h
 split at h
 · rename_i ex s' orc' ps hrun
   split at h
   · rename_i o1 H1 qs hfin
     injection h with h
     injection h with e1 h
     injection h with e2 e3
     subst e1 e2
     have hall:=propsAll l
     rw [← e3] at hall
     obtain ⟨hp,hq⟩:=allP_append.1 hall
     refine Go.wpIn_mono (runC_sound (r:=none) c hrun hp V0 V a h0 hs hG hok) ?_
     exact ends_goes (by rw [h0]; exact hfin) hq
   · cases h
 · cases h
end
end Go.Am


namespace Go.Am
open Go
structure Alter (n:Nat) (V V':View):Prop where
 data:∀ b,b<V.w.heap.size→¬ V.M b→V'.w.heap[b]? = V.w.heap[b]?∧¬ V'.M b
 own:∀ id,id<n→id<V.H.length→V'.ρ id=V.ρ id∧V'.w.heap[V.ρ id]? = V.w.heap[V.ρ id]?∧(V'.H[id]? = V.H[id]?∨∃ e e',V.H[id]? = some (.map e)∧V'.H[id]? = some (.map e'))
section
variable {n:Nat} {V V':View} (h:Alter n V V')
 include h
end
end Go.Am


namespace Go.Am
open Go
end Go.Am


namespace Go.Am
open Go
end Go.Am


namespace Go.Am
open Go
section
variable {P:Program} {G:Nat→Option (List AV)}
end
end Go.Am
