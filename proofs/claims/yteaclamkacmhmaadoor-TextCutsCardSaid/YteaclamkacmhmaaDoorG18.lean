import Derived.Test.YteaclamkacmhmaaDoorG17
import Derived.Shelf.Spec.SlicesInsertGrow
import Derived.KernelRfl
import Derived.Laws.Strings
set_option maxRecDepth 100000
set_option linter.unusedSimpArgs false
set_option linter.unusedVariables false

namespace Go.Tx
open Go Go.Am Go.Proofs Go.Seat Go.Lib
theorem run_overlaps_own {P:Program} (w:World) (tS tR e:TypeId) (ht:P.underlying tS=some (.slice e)) (size:Nat) (hz:∀ w,(Go.sizeOf e).run P w = .ok size w)
 (a b:Addr) (la ca lb cb:Nat) (hne:a.block≠b.block) (tA tB:TypeId) (kA kB:Nat)
 (hsa:w.shape? a.block=some (tA,kA)) (hsb:w.shape? b.block=some (tB,kB)) (hkA:kA≠0) (hkB:kB≠0) (hf:∀ o,w.frozen? ⟨b.block,o,none⟩=false) (hb:b.spot=none) :
 (Extern.SlicesOverlaps.overlaps #[tS,tS] #[tR] #[.slice (some a) la ca,.slice (some b) lb cb]).run P w = .ok (.bool false) w:=by
 have hnb:(a.block != b.block)=true:=by simpa using hne
 have hnb':(a.block == b.block)=false:=by simpa using hne
 have hfb:w.frozen? b=false:=by
  obtain ⟨x,y,z⟩:=b
  simp only at hb; subst hb
  exact hf y
 have hfk:w.frozen? { block:=b.block,off:=kB }=false:=hf kB
 change Sem.run P (α:=Value) (do
  let some t:=(#[tS,tS]:Array TypeId)[0]? | stuck "slices.overlaps: no parameter types"
  let .slice elem ← underlying t | stuck "slices.overlaps: slice type expected"
  let size ← sizeOf elem
  match (some a:Option Addr),(some b:Option Addr) with
  | some a,some b =>
   if la=0∨lb=0∨size=0 then pure (Value.bool false)
   else if a.block != b.block && (← frozen a) && (← frozen b) then unsupported .addressObserved
   else do
    if a.block != b.block then do
     noView a; noView b
     if ← mayBeOne a b then return Value.bool ((← choose (.extern "sameAddr.stringBytes" 2)) == 1)
    pure (Value.bool (a.block == b.block && a.off<b.off+lb * size && b.off<a.off+la * size))
  | _,_=>pure (Value.bool false)) w=_
 by_cases h0:la=0∨lb=0∨size=0
 · simp [run_underlying ht,hz,h0]
 · cases kB with
   | zero=>exact absurd rfl hkB
   | succ kB =>
    obtain ⟨kA,rfl⟩:∃ k,kA=k+1:=⟨kA - 1,by omega⟩
    cases hfa:w.frozen? a<;>cases hfe:w.frozen? { block:=a.block,off:=kA+1 } <;>
    simp [run_underlying ht,hz,h0,hnb,hnb',frozen,noView,viewAt,mayBeOne,stringish,shape,Sem.run,hsa,hsb,hfb,hfk,hfa,hfe]
theorem run_copy_wide {P:Program} (w:World) (dT sT ty elem:TypeId) (sz:Nat) (b o dLen dCap:Nat) (a:Addr) (sLen sCap:Nat) (cs:List Value) (n:Nat)
 (hu:P.underlying dT=some (.slice elem)) (hs:(P.info? elem).map (·.size)=some sz) (hm:n=Nat.min sLen dLen) (hn:cs.length=n * sz)
 (hsrc:∀ j v,cs[j]? = some v→w.cell? (a.add j)=some v) (hc:∀ j,j<cs.length→(w.cell? ⟨b,o+j,none⟩).isSome=true) (hf:∀ j,j<cs.length→w.frozen? ⟨b,o+j,none⟩=false) (h1:∀ v∈cs,v.oneCell'=true) :
 (Builtin.copy_ #[dT,sT] ty #[.slice (some ⟨b,o,none⟩) dLen dCap,.slice (some a) sLen sCap]).run P w = .ok (goInt n) (w.setCells b o cs):=by
 have hl:=run_loadCells_list (P:=P) w a cs hsrc
 have hst:=run_storeCells_cells (P:=P) b o cs 0 w (by simpa using hc) (by simpa using hf) h1
 cases hq:P.info? elem with
 | none=>simp [hq] at hs
 | some i =>
  have hi:i.size=sz:=by simpa [hq] using hs
  simp [Builtin.copy_,run_underlying hu,Builtin.lenOf,Builtin.firstCells,sizeOf,typeInfo,hq,hi,← hm,← hn,hl,hst]
set_option maxHeartbeats 4000000 in
theorem ins_shift (b n c i vb vo vc:Nat) (cs vs:List Value) (w:World) (hi:i<n) (hroom:n+1≤c) (hc63:c≤9223372036854775807) (hvb:vb≠b) (hcl:cs.length=n * 11) (hvl:vs.length=11)
 (hcs:∀ j v,cs[j]? = some v→w.cell? ⟨b,j,none⟩=some v) (hsp:∀ j,j<(n+1) * 11→(w.cell? ⟨b,j,none⟩).isSome=true) (hfz:∀ j,w.frozen? ⟨b,j,none⟩=false)
 (hvs:∀ j v,vs[j]? = some v→w.cell? ⟨vb,vo+j,none⟩=some v) (h1c:∀ v∈cs,v.oneCell'=true) (h1v:∀ v∈vs,v.oneCell'=true)
 (tA tB:TypeId) (kA kB:Nat) (hsa:w.shape? vb=some (tA,kA)) (hsb:w.shape? b=some (tB,kB)) (hkA:kA≠0) (hkB:kB≠0) :
 Calls Tryd.prog 58 #[.slice (some ⟨b,0,none⟩) n c,.int .i64 i,.slice (some ⟨vb,vo,none⟩) 1 vc] w fun e w' =>
  e = .returned (.slice (some ⟨b,0,none⟩) (n+1) c)∧w'=(w.drew.setCells b ((i+1) * 11) (cs.drop (i * 11))).setCells b (i * 11) vs:=by
 have hz2:¬ ((i:Int)=(n:Int)):=by omega
 have hsz:(Tryd.prog.info? 47).map (·.size)=some 11:=by kernel_rfl
 have hov:∀ lb cb o,(callFunc 76 #[.slice (some ⟨vb,vo,none⟩) 1 vc,.slice (some ⟨b,o,none⟩) lb cb]).run Tryd.prog w = .ok (.value (.bool false)) w:=fun lb cb o=>by
  rw [run_callFunc_extern Tryd.func76 (by kernel_rfl) (by kernel_rfl) (by kernel_rfl) (e:=Extern.SlicesOverlaps.overlaps #[23,23] #[4]) (by kernel_rfl),
   run_overlaps_own w 23 4 47 Tryd.underlying23 11 Tryd.sizeOf47 ⟨vb,vo,none⟩ ⟨b,o,none⟩ 1 vc lb cb hvb tA tB kA kB hsa hsb hkA hkB hfz rfl]
  rfl
 have mixed:Tryd.prog.follows .mixedOrders=true:=by kernel_rfl
 have hw1:IntKind.i64.wrap ((i:Int)+1)=(i:Int)+1:=by rw [IntKind.wrap_i64]; omega
 have hw2:IntKind.i64.wrap ((n:Int)+1)=(n:Int)+1:=by rw [IntKind.wrap_i64]; omega
 have hdl:(cs.drop (i * 11)).length=(n - i) * 11:=by rw [List.length_drop,hcl,Nat.sub_mul]
 have hb1:(0:Int)≤(i:Int)+1:=by omega
 have hin:i≤n:=by omega
 have htn:((i:Int)+1).toNat=i+1:=by omega
 have hb2:¬ (c=i+1):=by omega
 have hb3:(i:Int)≤(n:Int)+1:=by omega
 have hb4:¬ (c=i):=by omega
 have hcp1:∀ ty dc sc,(Builtin.copy_ #[23,23] ty #[.slice (some ⟨b,(i+1) * 11,none⟩) (n - i) dc,.slice (some ⟨b,i * 11,none⟩) (n+1 - i) sc]).run Tryd.prog w.drew = .ok (goInt ((n - i:Nat):Int)) (w.drew.setCells b ((i+1) * 11) (cs.drop (i * 11))):=fun ty dc sc =>
  run_copy_wide w.drew _ _ ty 47 11 b ((i+1) * 11) (n - i) dc ⟨b,i * 11,none⟩ (n+1 - i) sc (cs.drop (i * 11)) (n - i) Tryd.underlying23 hsz (by simp only [Nat.min_def]; split<;>omega) hdl
   (fun j v hj=>by rw [Addr.add_lit]; exact hcs (i * 11+j) v (by rwa [List.getElem?_drop] at hj))
   (fun j hj=>by rw [hdl] at hj; exact hsp _ (by omega)) (fun j hj=>hfz _) (fun v hv=>h1c v (List.mem_of_mem_drop hv))
 obtain ⟨W1,hW1⟩:∃ W1,W1=w.drew.setCells b ((i+1) * 11) (cs.drop (i * 11)):=⟨_,rfl⟩
 have hsp1:∀ k,k<(n+1) * 11→(W1.cell? ⟨b,k,none⟩).isSome=true:=fun k hk=>by
  rw [hW1]
  exact isSome_setCells b _ _ _ (fun j hj=>by rw [hdl] at hj; exact hsp _ (by omega)) _ (hsp k hk)
 have hcp2:∀ (W:World),(∀ x,W.cell? x=W1.cell? x)→(∀ x,W.frozen? x=W1.frozen? x)→∀ ty dc,(Builtin.copy_ #[23,23] ty #[.slice (some ⟨b,i * 11,none⟩) (n+1 - i) dc,.slice (some ⟨vb,vo,none⟩) 1 vc]).run Tryd.prog W = .ok (goInt 1) (W.setCells b (i * 11) vs):=fun W hWc hWf ty dc =>
  run_copy_wide W _ _ ty 47 11 b (i * 11) (n+1 - i) dc ⟨vb,vo,none⟩ 1 vc vs 1 Tryd.underlying23 hsz (by simp only [Nat.min_def]; split<;>omega) (by omega)
   (fun j v hj=>by
    rw [Addr.add_lit,hWc,hW1,World.cell?_setCells_out b _ _ _ _ (fun h _=>absurd h hvb)]
    exact hvs j v hj)
   (fun j hj=>by rw [hWc]; exact hsp1 _ (by omega)) (fun j hj=>by rw [hWf,hW1,World.frozen?_setCells]; exact hfz _) h1v
 rw [← hW1] at hcp1
 go_enter Tryd.func58,Tryd.ntmps58
 go_wp2_with (simp only [hov])
 go_region_law_o (refine step_copy_runI rfl _ _ 23 23 rfl _ _ (by simp [Act.eval,Act.put]) (by simp [Act.eval,Act.put]) (hcp1 _ _ _) ?_)
 go_wp2_with (at_builtin; refine wpList_copy_runI _ rfl _ _ 23 23 rfl _ _ rfl rfl (hcp2 _ (fun _=>rfl) (fun _=>rfl) _ _) ?_)
 go_ret
 first | exact ⟨rfl,rfl⟩ | exact ⟨rfl,by rw [hW1]⟩
abbrev zB:Value:=.agg #[.int .i64 0,.int .i64 0,.int .i64 0,.int .i64 0,.int .i64 0,.int .i64 0,.int .i64 0,.int .i64 0,.int .i64 0,.int .i64 0,.bool false]
def rowI (cs:List Value) (n i G:Nat):Array Value:=(cs.take (i * 11)).toArray++Builtin.zeroCells zB.cells (n+1 - i)++Builtin.zeroCells zB.cells (G - (n+1))
theorem rowI_size (cs:List Value) (n i G:Nat) (hcl:cs.length=n * 11) (hi:i<n) (hG:n+1≤G):(rowI cs n i G).size=G * 11:=by
 have:zB.cells.size=11:=rfl
 simp [rowI,Builtin.zeroCells,this,hcl]
 omega
set_option maxHeartbeats 4000000 in
theorem ins_grow (b n c i vb vo vc:Nat) (cs vs:List Value) (w:World) (hi:i<n) (hnc:n≤c) (hroom:c<n+1) (hbig:(n+1) * 88≤140737488355328) (hcl:cs.length=n * 11) (hvl:vs.length=11)
 (hcs:∀ j v,cs[j]? = some v→w.cell? ⟨b,j,none⟩=some v)
 (hvs:∀ j v,vs[j]? = some v→w.cell? ⟨vb,vo+j,none⟩=some v) (h1c:∀ v∈cs,v.oneCell'=true) (h1v:∀ v∈vs,v.oneCell'=true) :
 Calls Tryd.prog 58 #[.slice (some ⟨b,0,none⟩) n c,.int .i64 i,.slice (some ⟨vb,vo,none⟩) 1 vc] w fun e w' =>
  e = .returned (.slice (some ⟨w.heap.size,0,none⟩) (n+1) (grownCap w (n+1) c 47)) ∧
  w'=(((w.alloc (.cells (rowI cs n i (grownCap w (n+1) c 47)) 47)).drew.setCells w.heap.size (i * 11) vs).drew).setCells w.heap.size ((i+1) * 11) (cs.drop (i * 11)):=by
 have hz2:¬ ((i:Int)=(n:Int)):=by omega
 have hz3:(c:Int)<(n:Int)+1:=by omega
 have hsz:(Tryd.prog.info? 47).map (·.size)=some 11:=by kernel_rfl
 have hsb:(Tryd.prog.info? 47).map (fun i=>(i.size,i.bytes,i.zero))=some (11,88,some zB):=by kernel_rfl
 obtain ⟨i0,hi0,hzs,hzb,hz0⟩:∃ i0,Tryd.prog.info? 47=some i0∧i0.size=11∧i0.bytes=88∧i0.zero=some zB:=by
  cases hq:Tryd.prog.info? 47 with
  | none=>rw [hq] at hsb; cases hsb
  | some i0 =>
   rw [hq] at hsb
   simp only [Option.map_some,Option.some.injEq,Prod.mk.injEq] at hsb
   exact ⟨i0,rfl,hsb.1,hsb.2.1,hsb.2.2⟩
 have mixed:Tryd.prog.follows .mixedOrders=true:=by kernel_rfl
 have hbw:b<w.heap.size:=block_lt_of_cell (hcs 0 _ (List.getElem?_eq_getElem (by omega)))
 have hvw:vb<w.heap.size:=block_lt_of_cell (hvs 0 _ (List.getElem?_eq_getElem (by omega)))
 have hkk:(n:Int)+1 - (i:Int)=((n+1 - i:Nat):Int):=by omega
 have hik:i+(n+1 - i)=n+1:=by omega
 have hold:(Builtin.firstCells i0.size i (.slice (some ⟨b,0,none⟩) i c)).run Tryd.prog w.drew = .ok (cs.take (i * 11)).toArray w.drew:=by
  rw [hzs]
  exact run_firstCells_some w.drew 11 i ⟨b,0,none⟩ i c (cs.take (i * 11)) (by rw [List.length_take]; omega) (fun j v hj=>by
   rw [Addr.add_lit,Nat.zero_add]
   rw [List.getElem?_take] at hj
   split at hj
   · exact hcs j v hj
   · cases hj)
 have hrz:∀ ty,(Builtin.append_ #[23,3] ty #[.slice (some ⟨b,0,none⟩) i c,.int .i64 ((n:Int)+1 - (i:Int))]).run Tryd.prog w =
  .ok (.slice (some ⟨w.heap.size,0,none⟩) (n+1) (grownCap w (n+1) c 47)) (w.drew.alloc (.cells (rowI cs n i (grownCap w (n+1) c 47)) 47)):=fun ty=>by
  have h:=Lib.run_append_grow_zeros w 23 3 ty 47 i0 zB .i64 .i64 Tryd.underlying23 Tryd.underlying3 hi0 hz0 (some ⟨b,0,none⟩) i c (cs.take (i * 11)) hold (n+1 - i) (by omega) (by omega) (by omega) (by omega) (by rw [hzb]; omega) (by rw [hzb,hik]; exact growslice_fits hroom hbig)
  rw [hik] at h
  rw [hkk]
  exact h
 obtain ⟨G,hG⟩:∃ G,G=grownCap w (n+1) c 47:=⟨_,rfl⟩
 have hGn:n+1≤G:=by rw [hG]; exact grownCap_ge w _ _ _
 have hG63:G≤9223372036854775807:=by
  have:=grownCap_le_maxLen w (n+1) c 47 (by unfold maxLen; omega)
  rw [← hG] at this
  unfold maxLen at this
  omega
 obtain ⟨ROW,hROW⟩:∃ ROW:Array Value,ROW=rowI cs n i G:=⟨_,rfl⟩
 rw [← hG] at hrz ⊢
 rw [← hROW] at hrz ⊢
 have hRl:ROW.size=G * 11:=by rw [hROW]; exact rowI_size cs n i G hcl hi hGn
 obtain ⟨W1,hW1⟩:∃ W1,W1=w.drew.alloc (.cells ROW 47):=⟨_,rfl⟩
 rw [← hW1] at hrz
 have hN:∀ j,j<(n+1) * 11→(W1.cell? ⟨w.heap.size,j,none⟩).isSome=true:=fun j hj=>by
  rw [hW1,World.cell?_alloc_at (w:=w.drew) ROW _ w.heap.size j rfl,Array.getElem?_eq_getElem (by omega)]; rfl
 have hNf:∀ j,W1.frozen? ⟨w.heap.size,j,none⟩=false:=fun j=>by rw [hW1]; exact World.frozen?_alloc_at (w:=w.drew) ROW _ w.heap.size j rfl
 have hOb:∀ j v,w.cell? ⟨b,j,none⟩=some v→W1.cell? ⟨b,j,none⟩=some v:=fun j v h=>by rw [hW1,World.cell?_alloc_past (w:=w.drew) _ b j hbw]; exact h
 have hOv:∀ j v,w.cell? ⟨vb,j,none⟩=some v→W1.cell? ⟨vb,j,none⟩=some v:=fun j v h=>by rw [hW1,World.cell?_alloc_past (w:=w.drew) _ vb j hvw]; exact h
 have hcpA:∀ (W:World),(∀ x,W.cell? x=W1.cell? x)→(∀ x,W.frozen? x=W1.frozen? x)→∀ ty dc,(Builtin.copy_ #[23,23] ty #[.slice (some ⟨w.heap.size,i * 11,none⟩) (n+1 - i) dc,.slice (some ⟨vb,vo,none⟩) 1 vc]).run Tryd.prog W = .ok (goInt 1) (W.setCells w.heap.size (i * 11) vs):=fun W hWc hWf ty dc =>
  run_copy_wide W _ _ ty 47 11 w.heap.size (i * 11) (n+1 - i) dc ⟨vb,vo,none⟩ 1 vc vs 1 Tryd.underlying23 hsz (by simp only [Nat.min_def]; split<;>omega) (by omega)
   (fun j v hj=>by rw [Addr.add_lit,hWc]; exact hOv _ v (hvs j v hj))
   (fun j hj=>by rw [hWc]; exact hN _ (by omega)) (fun j hj=>by rw [hWf]; exact hNf _) h1v
 have hGi:¬ (G=i):=by omega
 have hGim:¬ (G=i+1):=by omega
 have hci:¬ (c=i):=by omega
 have hbN:b≠w.heap.size:=by omega
 have hdl:(cs.drop (i * 11)).length=(n - i) * 11:=by rw [List.length_drop,hcl,Nat.sub_mul]
 have hcpB:∀ (W:World),(∀ x,W.cell? x=(W1.setCells w.heap.size (i * 11) vs).cell? x)→(∀ x,W.frozen? x=(W1.setCells w.heap.size (i * 11) vs).frozen? x)→∀ ty dc sc,(Builtin.copy_ #[23,23] ty #[.slice (some ⟨w.heap.size,(i+1) * 11,none⟩) (n - i) dc,.slice (some ⟨b,i * 11,none⟩) (n - i) sc]).run Tryd.prog W = .ok (goInt ((n - i:Nat):Int)) (W.setCells w.heap.size ((i+1) * 11) (cs.drop (i * 11))):=fun W hWc hWf ty dc sc =>
  run_copy_wide W _ _ ty 47 11 w.heap.size ((i+1) * 11) (n - i) dc ⟨b,i * 11,none⟩ (n - i) sc (cs.drop (i * 11)) (n - i) Tryd.underlying23 hsz (by simp only [Nat.min_def]; split<;>omega) hdl
   (fun j v hj=>by
    rw [Addr.add_lit,hWc,World.cell?_setCells_out _ _ _ _ _ (fun h _=>absurd h hbN)]
    exact hOb _ v (hcs (i * 11+j) v (by rwa [List.getElem?_drop] at hj)))
   (fun j hj=>by rw [hdl] at hj; rw [hWc]; exact isSome_setCells _ _ _ _ (fun t ht=>hN _ (by omega)) _ (hN _ (by omega)))
   (fun j hj=>by rw [hWf,World.frozen?_setCells]; exact hNf _) (fun v hv=>h1c v (List.mem_of_mem_drop hv))
 subst hW1
 have hE1:∀ x,((w.alloc (.cells ROW 47)).drew).cell? x=(w.drew.alloc (.cells ROW 47)).cell? x:=fun x=>rfl
 have hE2:∀ x,((w.alloc (.cells ROW 47)).drew).frozen? x=(w.drew.alloc (.cells ROW 47)).frozen? x:=fun x=>rfl
 have hF1:∀ x,(((w.alloc (.cells ROW 47)).drew.setCells w.heap.size (i * 11) vs).drew).cell? x=((w.drew.alloc (.cells ROW 47)).setCells w.heap.size (i * 11) vs).cell? x:=fun x=>rfl
 have hF2:∀ x,(((w.alloc (.cells ROW 47)).drew.setCells w.heap.size (i * 11) vs).drew).frozen? x=((w.drew.alloc (.cells ROW 47)).setCells w.heap.size (i * 11) vs).frozen? x:=fun x=>rfl
 have hw1:IntKind.i64.wrap ((i:Int)+1)=(i:Int)+1:=by rw [IntKind.wrap_i64]; omega
 have hb1:(0:Int)≤(i:Int)+1:=by omega
 have hin:i≤n:=by omega
 have htn:((i:Int)+1).toNat=i+1:=by omega
 have hb3:(i:Int)≤(n:Int):=by omega
 clear hkk hik hold hROW hG hRl
 go_enter Tryd.func58,Tryd.ntmps58
 go_wp2_with (first
  | (at_builtin; refine Lib.wpList_append_run _ rfl _ _ _ _ rfl _ _ rfl rfl _ _ (hrz _) ?_)
  | (at_builtin; refine wpList_copy_runI _ rfl _ _ 23 23 rfl _ _ rfl rfl (hcpA _ hE1 hE2 _ _) ?_)
  | (at_builtin; refine wpList_copy_runI _ rfl _ _ 23 23 rfl _ _ rfl rfl (hcpB _ (fun _=>rfl) (fun _=>rfl) _ _ _) ?_))
 go_region_law_o (refine step_copy_runI rfl _ _ 23 23 rfl (.slice (some ⟨w.heap.size,(i+1) * 11,none⟩) (n - i) (G - (i+1))) (.slice (some ⟨b,i * 11,none⟩) (n - i) (c - i)) (by simp [Act.eval,Act.put]) (by simp [Act.eval,Act.put]) (hcpB _ hF1 hF2 3 (G - (i+1)) (c - i)) ?_)
 go_wp2
 go_ret
 exact ⟨rfl,rfl⟩
end Go.Tx


namespace Go.Tx
open Go Go.Am Go.Proofs Go.Seat Go.Lib
theorem setCells_same (b:Nat):∀ (vs:List Value) (o:Nat) (w:World),(w.setCells b o vs).os=w.os∧(w.setCells b o vs).tape=w.tape∧(w.setCells b o vs).output=w.output∧(w.setCells b o vs).drawn=w.drawn∧(w.setCells b o vs).heap.size=w.heap.size∧∀ i,i≠b→(w.setCells b o vs).heap[i]? = w.heap[i]?
 | [],_,_=>⟨rfl,rfl,rfl,rfl,rfl,fun _ _=>rfl⟩
 | v::r,o,w=>by
  obtain ⟨h1,h2,h3,h4,h5,h6⟩:=setCells_same b r (o+1) (w.setCell ⟨b,o,none⟩ v)
  rw [World.setCells]
  refine ⟨h1,h2,h3,h4,by rw [h5]; simp [World.setCell],fun i hi=>?_⟩
  rw [h6 i hi]
  simp [World.setCell,Array.getElem?_modify,Ne.symm hi]
def encW (b:MK):List Value:=[.int .i64 b.dv,.int .i64 b.sq,.int .i64 b.tm,.int .i64 b.fd,.int .i64 b.fs,.int .i64 b.fa,.int .i64 b.td,.int .i64 b.ts,.int .i64 b.ta,.int .i64 b.st,.bool b.on]
def fl (l:List MK):List Value:=l.flatMap encW
theorem encW_len (b:MK):(encW b).length=11:=rfl
theorem encW_one (b:MK):∀ v∈encW b,v.oneCell'=true:=by
 intro v hv
 simp only [encW,List.mem_cons,List.not_mem_nil,or_false] at hv
 rcases hv with h | h | h | h | h | h | h | h | h | h | h<;>subst h<;>rfl
theorem fl_cons (b:MK) (l:List MK):fl (b::l)=encW b++fl l:=rfl
theorem fl_append (a b:List MK):fl (a++b)=fl a++fl b:=by simp [fl]
theorem fl_len:∀ l:List MK,(fl l).length=l.length * 11
 | []=>rfl
 | b::l=>by rw [fl_cons,List.length_append,fl_len l,encW_len,List.length_cons]; omega
theorem fl_one (l:List MK):∀ v∈fl l,v.oneCell'=true:=by
 intro v hv
 obtain ⟨b,_,h⟩:=List.mem_flatMap.1 hv
 exact encW_one b v h
theorem fl_get:∀ {l:List MK} {k j:Nat} (hk:k<l.length),j<11→(fl l)[k * 11+j]? = some ((encW l[k]).getD j undef)
 | b::l,0,j,_,hj=>by
  rw [fl_cons,Nat.zero_mul,Nat.zero_add,List.getElem?_append_left (by rw [encW_len]; exact hj),List.getElem?_eq_getElem (by rw [encW_len]; exact hj)]
  simp [List.getD_eq_getElem?_getD,List.getElem?_eq_getElem (show j<(encW b).length by rw [encW_len]; exact hj)]
 | b::l,k+1,j,hk,hj=>by
  rw [fl_cons,List.getElem?_append_right (by rw [encW_len]; omega),encW_len,show (k+1) * 11+j - 11=k * 11+j by omega]
  exact fl_get (by simpa using hk) hj
theorem fl_take (l:List MK) (i:Nat):fl (l.take i)=(fl l).take (i * 11):=by
 rcases Nat.lt_or_ge l.length i with h | h
 · rw [List.take_of_length_le (by omega),List.take_of_length_le (by rw [fl_len]; omega)]
 · conv=>rhs; rw [← List.take_append_drop i l,fl_append]
   rw [List.take_left' (by rw [fl_len,List.length_take]; omega)]
theorem fl_drop (l:List MK) (i:Nat):fl (l.drop i)=(fl l).drop (i * 11):=by
 rcases Nat.lt_or_ge l.length i with h | h
 · rw [List.drop_of_length_le (by omega),List.drop_of_length_le (by rw [fl_len]; omega)]; rfl
 · conv=>rhs; rw [← List.take_append_drop i l,fl_append]
   rw [List.drop_left' (by rw [fl_len,List.length_take]; omega)]
theorem enc_prep (w:World) (M:Nat→Prop) (b:MK) {j:Nat} (hj:j<11):PRep w M ((enc b).getD j .dead) ((encW b).getD j undef):=by
 match j,hj with
 | 0,_=>exact .lit _
 | 1,_=>exact .lit _
 | 2,_=>exact .lit _
 | 3,_=>exact .lit _
 | 4,_=>exact .lit _
 | 5,_=>exact .lit _
 | 6,_=>exact .lit _
 | 7,_=>exact .lit _
 | 8,_=>exact .lit _
 | 9,_=>exact .lit _
 | 10,_=>exact .lit _
theorem enc_val {V:View} {b:MK} {j:Nat} {v:Value} (hj:j<11) (h:Rep V ((enc b).getD j .dead) v):v=(encW b).getD j undef:=by
 match j,hj with
 | 0,_=>exact rep_lit h
 | 1,_=>exact rep_lit h
 | 2,_=>exact rep_lit h
 | 3,_=>exact rep_lit h
 | 4,_=>exact rep_lit h
 | 5,_=>exact rep_lit h
 | 6,_=>exact rep_lit h
 | 7,_=>exact rep_lit h
 | 8,_=>exact rep_lit h
 | 9,_=>exact rep_lit h
 | 10,_=>exact rep_lit h
theorem ins_goes {V:View} {w':World} {bb cap:Nat} {y:List MK} {xs:List (List AV)} (hH:V.H=[.arr 0 11 false xs]) (hG:HeapRep G V) (hbb:bb=V.ρ 0∨V.w.heap.size≤bb)
 (h1:w'.os=V.w.os) (h2:w'.tape=V.w.tape) (h3:w'.output=V.w.output) (h4:V.w.heap.size≤w'.heap.size) (hdr:V.w.drawn≤w'.drawn) (h6:∀ i,i<V.w.heap.size→i≠V.ρ 0→w'.heap[i]? = V.w.heap[i]?)
 (hc:∀ j v,(fl y)[j]? = some v→w'.cell? ⟨bb,j,none⟩=some v) (hcap:y.length≤cap):Goes G V [.gone] (.ret (mks y)) (.returned (.slice (some ⟨bb,0,none⟩) y.length cap)) w':=by
 have hlen:V.H.length=1:=by rw [hH]; rfl
 have hM:V.M (V.ρ 0):=hG.mutb 0 _ (by rw [hH]; rfl) rfl
 have hlt:V.ρ 0<V.w.heap.size:=hG.lt 0 (by omega)
 have hst:Step V { w:=w',M:=fun x=>V.M x∧x≠bb,H:=[.gone],ρ:=V.ρ }:={
  os:=h1
  tape:=h2
  output:=h3
  size:=h4
  drawn:=hdr
  keep:=fun b hb hn=>⟨h6 b hb fun e=>hn 0 (by omega) e.symm,⟨fun h=>h.1,fun h=>⟨h,fun e=>by
   rcases hbb with h' | h'
   · exact hn 0 (by omega) (by omega)
   · omega⟩⟩⟩
  data:=fun b hb hn=>⟨h6 b hb fun e=>hn (e ▸ hM),fun h=>hn h.1⟩
  hlen:=by rw [hlen]; exact Nat.le_refl _
  fresh:=fun id hid=>.inl ⟨by rw [hlen]; exact hid,rfl⟩
  obj:=fun id hid=>by
   have:id=0:=by omega
   subst this
   unfold ObjStep
   rw [hH]
   exact trivial }
 refine ⟨_,rfl,hst,?_,rfl,?_⟩
 · exact {
    lt:=fun id hid=>by
     have:id=0:=by have:id<1:=hid; omega
     subst this
     exact Nat.lt_of_lt_of_le hlt h4
    obj:=fun id o ho=>by
     match id,ho with
     | 0,ho =>
      injection ho with ho
      subst ho
      exact trivial
    inj:=fun i j hi hj _=>by
     have:i<1:=hi
     have:j<1:=hj
     omega
    mutb:=fun id o ho hop=>by
     match id,ho with
     | 0,ho =>
      injection ho with ho
      subst ho
      cases hop
    glob:=hG.glob_step hst }
 · have key:PRep w' (fun x=>V.M x∧x≠bb) (.sl 11 false (encs y)) (.slice (some ⟨bb,0,none⟩) (encs y).length cap) :=
    .sl 11 false (encs y) (some ⟨bb,0,none⟩) cap bb 0 (fun k j=>((y[k]?).map fun b=>(encW b).getD j undef).getD undef) (fun _=>rfl) (fun _ _ h=>h.2 rfl) (by rw [encs_length]; exact hcap) (fun h=>by cases h)
     (fun x hx=>by obtain ⟨b,_,rfl⟩:=List.mem_map.1 hx; rfl)
     (fun k j hk hj=>by
      rw [encs_length] at hk
      rw [List.getElem?_eq_getElem hk,Nat.zero_add]
      exact hc _ _ (fl_get hk hj))
     (fun k j hk hj=>by
      rw [encs_length] at hk
      rw [List.getElem?_eq_getElem hk]
      have hm:(encW y[k]).getD j undef∈encW y[k]:=by
       rw [List.getD_eq_getElem?_getD,List.getElem?_eq_getElem (by rw [encW_len]; exact hj)]
       exact List.getElem_mem _
      exact encW_one _ _ hm)
     (fun k j hk hj=>by
      rw [encs_length] at hk
      rw [List.getElem?_eq_getElem hk]
      have e:(encs y).getD k []=enc y[k]:=by rw [List.getD_eq_getElem?_getD,encs_get?,List.getElem?_eq_getElem hk]; rfl
      rw [e]
      exact enc_prep _ _ _ hj)
   rw [encs_length] at key
   exact Rep.pure _ _ key
theorem alloc_size (w:World) (o:Obj):(w.alloc o).heap.size=w.heap.size+1:=by
 show (w.heap.push _).size=_
 rw [Array.size_push]
theorem alloc_cell (w:World) (R:Array Value) (t:TypeId) (j:Nat):(w.alloc (.cells R t)).cell? ⟨w.heap.size,j,none⟩=R[j]? := by
 unfold World.cell? World.alloc
 simp only [Array.getElem?_push_size]
 rfl
theorem alloc_old (w:World) (o:Obj) (k:Nat) (hk:k<w.heap.size):(w.alloc o).heap[k]? = w.heap[k]? := by
 show (w.heap.push _)[k]? = _
 rw [Array.getElem?_push_lt hk,Array.getElem?_eq_getElem hk]
theorem drew_os (w:World):w.drew.os=w.os:=rfl
theorem drew_tape (w:World):w.drew.tape=w.tape:=rfl
theorem drew_output (w:World):w.drew.output=w.output:=rfl
theorem drew_heap (w:World):w.drew.heap=w.heap:=rfl
theorem drew_drawn (w:World):w.drew.drawn=w.drawn+1:=rfl
theorem drew_cell (w:World) (a:Addr):w.drew.cell? a=w.cell? a:=rfl
set_option maxHeartbeats 2000000 in
theorem ins_in (x w:List MK) (b:MK) (i:Nat) (hi:i<x.length) (hx:x.length≤1000000000):CallC P G 58 [.own 0 0 0 x.length,int i,.sl 11 true [enc b]] [.arr 0 11 false (encs (x++w))] (.ret (mks (x.take i++[b]++x.drop i))) [.gone]:=by
 intro V vs hH hG hr
 rw [callsIn_wide]
 obtain ⟨v0,v1,v2,rfl⟩:∃ v0 v1 v2,vs=[v0,v1,v2]:=by
  have:=hr.1
  match vs,this with
  | [a,b,c],_=>exact ⟨a,b,c,rfl⟩
 have e1:=rep_lit hr.tail.head
 subst e1
 have hs:=rep_sl hr.tail.tail.head
 have ho:=(rep_own hr.head).2
 have hH0:V.H[0]? = some (.arr 0 11 false (encs (x++w))):=by rw [hH]; rfl
 rw [hH0] at ho
 obtain ⟨A,cap,c,t,rfl,hA,hle,hmax,hheap,hsize⟩:=ho.2 rfl
 obtain ⟨t',c',hheap',hcs0,_,hcell⟩:=hG.obj 0 _ hH0
 rw [hheap] at hheap'
 injection hheap' with hheap'
 injection hheap' with ec et
 subst ec et
 have hcap0:cap≠0:=by omega
 rw [Nat.zero_add] at hsize
 rw [hA hcap0,Nat.zero_mul]
 cases hs with
 | sl _ _ _ A2 cap2 vb vo f hA2 hb2 hcap2 ht2 hsz2 hc2 ho2 hr2 =>
  have e2:A2=some ⟨vb,vo,none⟩:=hA2 (by simp)
  subst e2
  have hMb:¬ V.M vb:=hb2 (by simp) (by decide)
  have hM:V.M (V.ρ 0):=hG.mutb 0 _ hH0 rfl
  have hne:vb≠V.ρ 0:=fun e=>hMb (e ▸ hM)
  have hbw:V.ρ 0<V.w.heap.size:=hG.lt 0 (by rw [hH]; exact Nat.zero_lt_one)
  have hvs:∀ j v,(encW b)[j]? = some v→V.w.cell? ⟨vb,vo+j,none⟩=some v:=fun j v hj=>by
   have hj5:j<11:=(List.getElem?_eq_some_iff.1 hj).1
   have h1:=hc2 0 j Nat.zero_lt_one hj5
   have h2:=enc_val (V:=V) hj5 (.pure _ _ (hr2 0 j Nat.zero_lt_one hj5))
   rw [h2] at h1
   rw [List.getD_eq_getElem?_getD,hj] at h1
   simpa using h1
  have hxl:∀ k (hk:k<x.length),(encs (x++w)).getD k []=enc x[k]:=fun k hk=>by
   rw [List.getD_eq_getElem?_getD,encs_get?,List.getElem?_append_left hk,List.getElem?_eq_getElem hk]; rfl
  have hcs:∀ j v,(fl x)[j]? = some v→V.w.cell? ⟨V.ρ 0,j,none⟩=some v:=fun j v hj=>by
   have hjl:j<x.length * 11:=by rw [← fl_len]; exact (List.getElem?_eq_some_iff.1 hj).1
   have hk:j / 11<x.length:=by omega
   have hm:j % 11<11:=Nat.mod_lt _ (by decide)
   obtain ⟨u,hu,_,hu2⟩:=hcell (j / 11) (j % 11) (by rw [encs_length,List.length_append]; omega) hm
   rw [hxl _ hk] at hu2
   have hu3:=enc_val hm hu2
   have hg:=fl_get hk hm
   rw [show j / 11 * 11+j % 11=j by omega] at hg hu
   rw [hg] at hj
   injection hj with hj
   simp only [World.cell?,hheap]
   show c[j]? = some v
   rw [hu,hu3,hj]
  have hy:(x.take i++[b]++x.drop i).length=x.length+1:=by simp; omega
  have hfy:fl (x.take i++[b]++x.drop i)=(fl x).take (i * 11)++encW b++(fl x).drop (i * 11):=by
   rw [fl_append,fl_append,fl_take,fl_drop]; simp [fl]
  have hdl:((fl x).drop (i * 11)).length=(x.length - i) * 11:=by rw [List.length_drop,fl_len,Nat.sub_mul]
  have htl:((fl x).take (i * 11)).length=i * 11:=by rw [List.length_take,fl_len]; omega
  have fin:∀ (W:World) (bb:Nat),(∀ j v,j<i * 11→(fl x)[j]? = some v→W.cell? ⟨bb,j,none⟩=some v)→(∀ j (hj:j<11),W.cell? ⟨bb,i * 11+j,none⟩=some ((encW b)[j]'(by rw [encW_len]; exact hj)))→(∀ j (hj:j<((fl x).drop (i * 11)).length),W.cell? ⟨bb,(i+1) * 11+j,none⟩=some ((fl x).drop (i * 11))[j])→∀ j v,(fl (x.take i++[b]++x.drop i))[j]? = some v→W.cell? ⟨bb,j,none⟩=some v:=fun W bb k1 k2 k3 j v hj=>by
   rw [hfy] at hj
   rcases Nat.lt_or_ge j (i * 11) with h | h
   · rw [List.append_assoc,List.getElem?_append_left (by omega),List.getElem?_take,if_pos h] at hj
     exact k1 j v h hj
   · rcases Nat.lt_or_ge j ((i+1) * 11) with h' | h'
     · rw [List.append_assoc,List.getElem?_append_right (by omega),htl,List.getElem?_append_left (by rw [encW_len]; omega)] at hj
       have:=k2 (j - i * 11) (by omega)
       rw [show i * 11+(j - i * 11)=j by omega] at this
       rw [this,← hj,List.getElem?_eq_getElem]
     · rw [List.getElem?_append_right (by rw [List.length_append,htl,encW_len]; omega),List.length_append,htl,encW_len] at hj
       obtain ⟨hl,he⟩:=List.getElem?_eq_some_iff.1 hj
       have:=k3 (j - (i * 11+11)) hl
       rw [show (i+1) * 11+(j - (i * 11+11))=j by omega] at this
       rw [this,he]
  have hlc:([enc b]:List (List AV)).length=1:=rfl
  rcases Nat.lt_or_ge cap (x.length+1) with hroom | hroom
  · have hcon:=ins_grow (V.ρ 0) x.length cap i vb vo cap2 (fl x) (encW b) V.w hi hle hroom (by omega) (fl_len x) (encW_len b) hcs hvs (fl_one x) (encW_one b)
    refine Calls.mono hcon fun e w' he=>?_
    obtain ⟨rfl,rfl⟩:=he
    have hGn:x.length+1≤grownCap V.w (x.length+1) cap 47:=grownCap_ge V.w _ _ _
    obtain ⟨GG,hGG⟩:∃ GG,GG=grownCap V.w (x.length+1) cap 47:=⟨_,rfl⟩
    rw [← hGG] at hGn ⊢
    have hRs:(rowI (fl x) x.length i GG).size=GG * 11:=rowI_size _ _ _ _ (fl_len x) hi hGn
    have hRt:∀ j v,j<i * 11→(fl x)[j]? = some v→(rowI (fl x) x.length i GG)[j]? = some v:=fun j v hj hv=>by
     rw [rowI,Array.append_assoc,Array.getElem?_append_left (by rw [List.size_toArray]; omega),List.getElem?_toArray,List.getElem?_take,if_pos hj,hv]
    obtain ⟨ROW,hROW⟩:∃ ROW,ROW=rowI (fl x) x.length i GG:=⟨_,rfl⟩
    rw [← hROW] at hRs hRt ⊢
    obtain ⟨W0,hW0⟩:∃ W0,W0=V.w.alloc (.cells ROW 47):=⟨_,rfl⟩
    have hW0s:W0.heap.size=V.w.heap.size+1:=by rw [hW0]; exact alloc_size _ _
    have hW0c:∀ j,W0.cell? ⟨V.w.heap.size,j,none⟩=ROW[j]? := fun j=>by rw [hW0]; exact alloc_cell _ _ _ _
    have hW0o:∀ k,k<V.w.heap.size→W0.heap[k]? = V.w.heap[k]? := fun k hk=>by rw [hW0]; exact alloc_old _ _ _ hk
    have w1:W0.os=V.w.os:=by rw [hW0]; rfl
    have w2:W0.tape=V.w.tape:=by rw [hW0]; rfl
    have w3:W0.output=V.w.output:=by rw [hW0]; rfl
    have w4:W0.drawn=V.w.drawn:=by rw [hW0]; rfl
    rw [← hW0]
    clear hW0 hROW hGG hcon
    obtain ⟨a1,a2,a3,a4,a5,a6⟩:=setCells_same V.w.heap.size (encW b) (i * 11) W0.drew
    obtain ⟨b1,b2,b3,b4,b5,b6⟩:=setCells_same V.w.heap.size ((fl x).drop (i * 11)) ((i+1) * 11) ((W0.drew.setCells V.w.heap.size (i * 11) (encW b)).drew)
    have hsome:∀ j,j<(x.length+1) * 11→(W0.drew.cell? ⟨V.w.heap.size,j,none⟩).isSome=true:=fun j hj=>by
     have hj':j<ROW.size:=by omega
     rw [drew_cell,hW0c,Array.getElem?_eq_getElem hj']; rfl
    have hsome2:∀ j,j<(x.length+1) * 11→((W0.drew.setCells V.w.heap.size (i * 11) (encW b)).cell? ⟨V.w.heap.size,j,none⟩).isSome=true:=fun j hj =>
     isSome_setCells V.w.heap.size (encW b) (i * 11) W0.drew (fun k hk=>hsome (i * 11+k) (by rw [encW_len] at hk; omega)) j (hsome j hj)
    rw [← hy]
    refine ins_goes hH hG (.inr (Nat.le_refl _)) ?_ ?_ ?_ ?_ ?_ ?_ ?_ (by rw [hy]; exact hGn)
    · rw [b1]; rw [drew_os,a1,drew_os,w1]
    · rw [b2]; rw [drew_tape,a2,drew_tape,w2]
    · rw [b3]; rw [drew_output,a3,drew_output,w3]
    · rw [b5,drew_heap,a5,drew_heap]; omega
    · rw [b4,drew_drawn,a4,drew_drawn]; omega
    · intro k hk _
      rw [b6 k (by omega),drew_heap,a6 k (by omega),drew_heap]
      exact hW0o k hk
    · refine fin _ _ (fun j v hj hv=>?_) (fun j hj=>?_) fun j hj=>?_
      · rw [World.cell?_setCells_out _ _ _ _ _ (fun _ _=>.inl (by show j<(i+1) * 11; omega))]
        rw [drew_cell,World.cell?_setCells_out _ _ _ _ _ (fun _ _=>.inl hj),drew_cell,hW0c]
        exact hRt j v hj hv
      · rw [World.cell?_setCells_out _ _ _ _ _ (fun _ _=>.inl (by show i * 11+j<(i+1) * 11; omega))]
        rw [drew_cell]
        exact World.cell?_setCells_in V.w.heap.size (encW b) (i * 11) W0.drew (fun k hk=>hsome (i * 11+k) (by rw [encW_len] at hk; omega)) j hj
      · exact World.cell?_setCells_in V.w.heap.size ((fl x).drop (i * 11)) ((i+1) * 11) (W0.drew.setCells V.w.heap.size (i * 11) (encW b)).drew (fun k hk=>by rw [drew_cell]; exact hsome2 ((i+1) * 11+k) (by rw [hdl] at hk; omega)) j hj
  · have hvc:V.w.cell? ⟨vb,vo,none⟩=some (.int .i64 b.dv):=hvs 0 _ rfl
    obtain ⟨tA,kA,hsa,hkA⟩:∃ tA kA,V.w.shape? vb=some (tA,kA)∧kA≠0:=by
     unfold World.cell? at hvc
     simp only at hvc
     split at hvc
     · rename_i c2 t2 f2 hq
       refine ⟨t2,c2.size,by simp [World.shape?,hq],?_⟩
       have:c2[vo]? = some (Value.int .i64 b.dv):=by simpa using hvc
       have:=(Array.getElem?_eq_some_iff.1 this).1
       omega
     · cases hvc
    have hcon:=ins_shift (V.ρ 0) x.length cap i vb vo cap2 (fl x) (encW b) V.w hi hroom (by unfold maxLen at hmax; omega) hne (fl_len x) (encW_len b) hcs
     (fun j hj=>by simp only [World.cell?,hheap]; show (c[j]?).isSome=true; rw [Array.getElem?_eq_getElem (by omega)]; rfl) (fun j=>by simp [World.frozen?,hheap]) hvs (fl_one x) (encW_one b) tA t kA c.size hsa (by simp [World.shape?,hheap]) hkA (by omega)
    refine Calls.mono hcon fun e w' he=>?_
    obtain ⟨rfl,rfl⟩:=he
    obtain ⟨a1,a2,a3,a4,a5,a6⟩:=setCells_same (V.ρ 0) ((fl x).drop (i * 11)) ((i+1) * 11) V.w.drew
    obtain ⟨b1,b2,b3,b4,b5,b6⟩:=setCells_same (V.ρ 0) (encW b) (i * 11) (V.w.drew.setCells (V.ρ 0) ((i+1) * 11) ((fl x).drop (i * 11)))
    have hsome:∀ j,j<(x.length+1) * 11→(V.w.drew.cell? ⟨V.ρ 0,j,none⟩).isSome=true:=fun j hj=>by
     show (V.w.cell? ⟨V.ρ 0,j,none⟩).isSome=true
     simp only [World.cell?,hheap]; show (c[j]?).isSome=true; rw [Array.getElem?_eq_getElem (by omega)]; rfl
    have hsome2:∀ j,j<(x.length+1) * 11→((V.w.drew.setCells (V.ρ 0) ((i+1) * 11) ((fl x).drop (i * 11))).cell? ⟨V.ρ 0,j,none⟩).isSome=true:=fun j hj =>
     isSome_setCells (V.ρ 0) ((fl x).drop (i * 11)) ((i+1) * 11) V.w.drew (fun k hk=>hsome ((i+1) * 11+k) (by rw [hdl] at hk; omega)) j (hsome j hj)
    rw [← hy]
    refine ins_goes hH hG (.inl rfl) ?_ ?_ ?_ ?_ ?_ ?_ ?_ (by rw [hy]; exact hroom)
    · rw [b1,a1,drew_os]
    · rw [b2,a2,drew_tape]
    · rw [b3,a3,drew_output]
    · rw [b5,a5,drew_heap]; exact Nat.le_refl _
    · rw [b4,a4,drew_drawn]; omega
    · intro k hk hne
      rw [b6 k hne,a6 k hne,drew_heap]
    · refine fin _ _ (fun j v hj hv=>?_) (fun j hj=>?_) fun j hj=>?_
      · rw [World.cell?_setCells_out _ _ _ _ _ (fun _ _=>.inl hj),World.cell?_setCells_out _ _ _ _ _ (fun _ _=>.inl (by show j<(i+1) * 11; omega))]
        exact hcs j v hv
      · exact World.cell?_setCells_in (V.ρ 0) (encW b) (i * 11) (V.w.drew.setCells (V.ρ 0) ((i+1) * 11) ((fl x).drop (i * 11))) (fun k hk=>hsome2 (i * 11+k) (by rw [encW_len] at hk; omega)) j hj
      · rw [World.cell?_setCells_out _ _ _ _ _ (fun _ _=>.inr (by show i * 11+(encW b).length≤(i+1) * 11+j; rw [encW_len]; omega))]
        exact World.cell?_setCells_in (V.ρ 0) ((fl x).drop (i * 11)) ((i+1) * 11) V.w.drew (fun k hk=>hsome ((i+1) * 11+k) (by rw [hdl] at hk; omega)) j hj
end Go.Tx


namespace Go.Tx
open Go Go.Am Go.Proofs Go.Seat
open Go.Sq (CE cel ces ida idv pid fX fiO OkRs chkE)
abbrev a1F (i:Nat):AV:=.fn (.func 56) [] [.ptr i 0]
theorem dot_beq' (x y:MK):(x.dv == y.dv && x.sq == y.sq)=decide (x.dot=y.dot):=by
 rw [Bool.eq_iff_iff]; simp [MK.dot]
theorem a1_w (x m:MK) (r:Bool) (h:(MK.dv x == MK.dv m && MK.sq x == MK.sq m)=(r)):CallC P G 56 [mke x,AV.ptr 0 0] [AObj.box (enc m)] (AOut.ret (Am.bool r)) [AObj.box (enc m)]:=by
 have e1:=h
 exact callC_out (Sub.bool_eq e1) [] (by kernel_rfl)
theorem a1_c (x m:MK):CallC P G 56 [mke x,.ptr 0 0] [.box (enc m)] (.ret (bool (decide (x.dot=m.dot)))) [.box (enc m)]:=a1_w x m _ (dot_beq' x m)
def aiS (v:List MK) (m:MK) (k:Nat):St:={ env:=slots 19 [(0,mks v),(1,a1F 0),(4,int 0),(6,mks v),(7,int v.length),(8,int k)],H:=[.box (enc m)] }
theorem ai_w (v:List MK) (m:MK) (k:Nat) (hv:v.length≤1000000000) (ex:AEx) (r:Int) (h:((((↑k:Int)<(↑(List.length v):Int))→(∃ x2:MK,(v[k]? = some x2)∧(((MK.dot x2=MK.dot m)→(AEx.ret=ex)∧(((↑k:Int):Int)=(r)))∧((¬MK.dot x2=MK.dot m)→RunL P G none 1 (loopAt P 75 0) (St.mk (slots 19 [(0,AV.sl 11 false (encs v)),(1,AV.fn (Fn.func 56) [] [AV.ptr 0 0]),(4,int 0),(6,AV.sl 11 false (encs v)),(7,int (↑(List.length v):Int)),(8,int (↑(k+1):Int))]) [AObj.box [int (MK.dv m),int (MK.sq m),int (MK.tm m),int (MK.fd m),int (MK.fs m),int (MK.fa m),int (MK.td m),int (MK.ts m),int (MK.ta m),int (MK.st m),Am.bool (MK.on m)]] []) ex (St.mk (slots 19 [(4,int r)]) [AObj.box (enc m)] [])))))∧((¬(↑k:Int)<(↑(List.length v):Int))→(AEx.exit 0=ex)∧((0:Int)=(r))))):RunL P G none 1 (loopAt P 75 0) (aiS v m k) ex (St.mk (slots 19 [(4,int r)]) [AObj.box (enc m)] []):=by
 by_cases c1:((↑k:Int)<(↑(List.length v):Int))
 · have h:=h.1 c1
   obtain ⟨x2,o3,h⟩:=h
   have hz0:(0:Int)≤(↑k:Int)∧(encs v)[Int.toNat (↑k:Int)]? = some (enc x2):=(el_nat o3)
   have hz1:=(@Go.Tx.a1_c (x2) (m))
   by_cases c4:(MK.dot x2=MK.dot m)
   · have h:=h.1 c4
     obtain ⟨eX,e1⟩:=h
     exact RunL.to ((show RunL P G none 1 (loopAt P 75 0) (aiS v m k) AEx.ret (St.mk (slots 19 [(4,int (↑k:Int))]) [AObj.box [int (MK.dv m),int (MK.sq m),int (MK.tm m),int (MK.fd m),int (MK.fs m),int (MK.fa m),int (MK.td m),int (MK.ts m),int (MK.ta m),int (MK.st m),Am.bool (MK.on m)]] []) from loop_exit [kt (decide_eq_true c1),ko (Orc.elem (enc x2)),kp hz0,kc [0] hz1,kt (decide_eq_true c4)] (others 19 [4]) 1 (by kernel_rfl))) eX (SubS.slots ⟨rfl,(Sub.int_eq e1),trivial⟩)
   · have h:=h.2 c4
     exact loop_next [kt (decide_eq_true c1),ko (Orc.elem (enc x2)),kp hz0,kc [0] hz1,kf (decide_eq_false c4),kv 18 (show Am.Sub (int (IntKind.wrap IntKind.i64 ((↑k:Int)+1))) (int (↑(k+1):Int)) from (Sub.of_wrap (by omega) (by omega) (by omega)))] (others 19 [0,1,4,6,7,8]) 1 h (by kernel_rfl)
 · have h:=h.2 c1
   obtain ⟨eX,e1⟩:=h
   exact RunL.to ((show RunL P G none 1 (loopAt P 75 0) (aiS v m k) (AEx.exit 0) (St.mk (slots 19 [(4,int 0)]) [AObj.box [int (MK.dv m),int (MK.sq m),int (MK.tm m),int (MK.fd m),int (MK.fs m),int (MK.fa m),int (MK.td m),int (MK.ts m),int (MK.ta m),int (MK.st m),Am.bool (MK.on m)]] []) from loop_exit [kf (decide_eq_false c1)] (others 19 [4]) 1 (by kernel_rfl))) eX (SubS.slots ⟨rfl,(Sub.int_eq e1),trivial⟩)
theorem ai_loop (v:List MK) (m:MK) (hv:v.length≤1000000000):∀ n k,v.length - k=n→k≤v.length→∃ j:Nat,RunL P G none 1 (loopAt P 75 0) (aiS v m k) (if (v.drop k).any (fun a=>decide (a.dot=m.dot))=true then .ret else .exit 0) { env:=slots 19 [(4,int j)],H:=[.box (enc m)] }:=by
 intro n
 induction n with
 | zero =>
  intro k hn hk
  rw [List.drop_eq_nil_of_le (by omega)]
  exact ⟨0,ai_w v m k hv _ _ ⟨fun h=>absurd h (by omega),fun _=>⟨rfl,rfl⟩⟩⟩
 | succ n ih =>
  intro k hn hk
  have hlt:k<v.length:=by omega
  obtain ⟨j,nx⟩:=ih (k+1) (by omega) (by omega)
  rw [List.drop_eq_getElem_cons hlt,List.any_cons]
  cases hd:decide (v[k].dot=m.dot) with
  | true =>
   rw [Bool.true_or]
   exact ⟨k,ai_w v m k hv _ _ ⟨fun h=>⟨v[k],List.getElem?_eq_getElem hlt,⟨fun _=>⟨rfl,rfl⟩,fun hq=>by simp [of_decide_eq_true hd] at hq⟩⟩,fun h=>absurd hlt (by omega)⟩⟩
  | false =>
   rw [Bool.false_or]
   exact ⟨j,ai_w v m k hv _ _ ⟨fun h=>⟨v[k],List.getElem?_eq_getElem hlt,⟨fun hq=>absurd hq (of_decide_eq_false hd),fun _=>nx⟩⟩,fun h=>absurd hlt (by omega)⟩⟩
theorem ai_y (v:List MK) (m:MK) (j:Nat) (hL:RunL P G none 1 (loopAt P 75 0) (aiS v m 0) .ret { env:=slots 19 [(4,int j)],H:=[.box (enc m)] }) (h:True):CallC P G 75 [mks v,a1F 0] [AObj.box (enc m)] (AOut.ret (int (↑j:Int))) [AObj.box (enc m)]:=by
 have _:=h
 exact callC_of [kv 7 (show Am.Sub (int (↑(List.length (encs v)):Int)) (int (↑(List.length v):Int)) from (Sub.of_eq (by simp only [Go.Tx.encs_length]))),kl [2,3,5,9,10,11,12,13,14,15,16,17,18] 1 (@hL )] (by kernel_rfl)
theorem ai_n (v:List MK) (m:MK) (j:Nat) (hL:RunL P G none 1 (loopAt P 75 0) (aiS v m 0) (.exit 0) { env:=slots 19 [(4,int j)],H:=[.box (enc m)] }) (h:True):CallC P G 75 [mks v,a1F 0] [AObj.box (enc m)] (AOut.ret (int (-1))) [AObj.box (enc m)]:=by
 have _:=h
 exact callC_of [kv 7 (show Am.Sub (int (↑(List.length (encs v)):Int)) (int (↑(List.length v):Int)) from (Sub.of_eq (by simp only [Go.Tx.encs_length]))),kl [2,3,5,9,10,11,12,13,14,15,16,17,18] 1 (@hL )] (by kernel_rfl)
theorem ac_w (v:List MK) (m:MK) (i:Int) (h0:CallC P G 75 [mks v,a1F 0] [.box (enc m)] (.ret (int i)) [.box (enc m)]) (r:Bool) (h:(decide (i≥(0:Int)))=(r)):CallC P G 55 [mks v,a1F 0] [AObj.box (enc m)] (AOut.ret (Am.bool r)) [AObj.box (enc m)]:=by
 have e1:=h
 exact callC_out (Sub.bool_eq e1) [kc [0] (@h0 )] (by kernel_rfl)
theorem met_c (v:List MK) (m:MK) (hv:v.length≤1000000000):CallC P G 55 [mks v,a1F 0] [.box (enc m)] (.ret (bool (v.any fun a=>decide (a.dot=m.dot)))) [.box (enc m)]:=by
 obtain ⟨j,h0⟩:=ai_loop v m hv _ 0 rfl (by omega)
 rw [List.drop_zero] at h0
 cases h:v.any fun a=>decide (a.dot=m.dot) with
 | true=>rw [h,if_pos rfl] at h0; exact ac_w v m _ (ai_y v m j h0 trivial) _ (by simp)
 | false=>rw [h,if_neg (by decide)] at h0; exact ac_w v m _ (ai_n v m j h0 trivial) _ (by simp)
abbrev fnF (f:Nat):AV:=.lit (.func (.func f) #[] #[])
def midV (i j:Nat):Int:=IntKind.wrap IntKind.i64 (Int.fdiv (↑(i+j):Int) (2 ^ min (Int.toNat 1) (IntKind.bits IntKind.u64)))
theorem midV_eq {i j:Nat} (h:i+j≤1000000000000):midV i j=(((i+j) / 2:Nat):Int):=by
 have e:(2 ^ min (Int.toNat 1) (IntKind.bits IntKind.u64):Int)=2:=by decide
 unfold midV
 rw [e,IntKind.wrap_i64,Int.fdiv_eq_ediv_of_nonneg _ (by omega)]
 omega
def bsS (v:List MK) (m:MK) (i j:Nat):St:={ env:=slots 49 [(0,mks v),(2,fnF 43),(4,.ptr 0 0),(8,int v.length),(9,int i),(10,int j)],H:=[.box (enc m)] }
def bsX (v:List MK) (m:MK) (p:Nat):St:={ env:=slots 49 [(0,mks v),(2,fnF 43),(4,.ptr 0 0),(8,int v.length),(9,int p)],H:=[.box (enc m)] }
theorem bs_w (v:List MK) (b:MK) (i j m:Nat) (hj:j≤v.length) (hv:v.length≤1000000000) (hm:midV i j=(m:Int)) (hm':IntKind.wrap IntKind.i64 (Int.fdiv (↑(i+j):Int) (2 ^ min (Int.toNat 1) (IntKind.bits IntKind.u64)))=(m:Int)) (hlt:m<j) (ex:AEx) (s:St) (h:((((↑i:Int)<(↑j:Int))→(∃ x2:MK,((0:Int)≤midV i j∧v[Int.toNat (midV i j)]? = some x2)∧(((ordM x2 b<(0:Int))→RunL P G none 0 (loopAt P 57 0) (St.mk (slots 49 [(0,AV.sl 11 false (encs v)),(2,AV.lit (Value.func (Fn.func 43) (Array.mk []) (Array.mk []))),(4,AV.ptr 0 0),(8,int (↑(List.length v):Int)),(9,int (midV i j+1)),(10,int (↑j:Int))]) [AObj.box [int (MK.dv b),int (MK.sq b),int (MK.tm b),int (MK.fd b),int (MK.fs b),int (MK.fa b),int (MK.td b),int (MK.ts b),int (MK.ta b),int (MK.st b),Am.bool (MK.on b)]] []) ex s)∧((¬ordM x2 b<(0:Int))→RunL P G none 0 (loopAt P 57 0) (St.mk (slots 49 [(0,AV.sl 11 false (encs v)),(2,AV.lit (Value.func (Fn.func 43) (Array.mk []) (Array.mk []))),(4,AV.ptr 0 0),(8,int (↑(List.length v):Int)),(9,int (↑i:Int)),(10,int (midV i j))]) [AObj.box [int (MK.dv b),int (MK.sq b),int (MK.tm b),int (MK.fd b),int (MK.fs b),int (MK.fa b),int (MK.td b),int (MK.ts b),int (MK.ta b),int (MK.st b),Am.bool (MK.on b)]] []) ex s))))∧((¬(↑i:Int)<(↑j:Int))→(AEx.exit 0=ex)∧(St.mk (slots 49 [(0,AV.sl 11 false (encs v)),(2,AV.lit (Value.func (Fn.func 43) (Array.mk []) (Array.mk []))),(4,AV.ptr 0 0),(8,int (↑(List.length v):Int)),(9,int (↑i:Int))]) [AObj.box [int (MK.dv b),int (MK.sq b),int (MK.tm b),int (MK.fd b),int (MK.fs b),int (MK.fa b),int (MK.td b),int (MK.ts b),int (MK.ta b),int (MK.st b),Am.bool (MK.on b)]] []=s)))):RunL P G none 0 (loopAt P 57 0) (bsS v b i j) ex s:=by
 by_cases c1:((↑i:Int)<(↑j:Int))
 · have h:=h.1 c1
   have hz0:Am.Sub (int (IntKind.wrap IntKind.i64 ((↑i:Int)+(↑j:Int)))) (int (↑(i+j):Int)):=(Sub.of_wrap (by omega) (by omega) (by omega))
   have hz1:Am.Sub (AV.lit (Value.int IntKind.u64 (IntKind.wrap IntKind.u64 (↑(i+j):Int)))) (AV.lit (Value.int IntKind.u64 (↑(i+j):Int))):=(Sub.of_wrapU (by omega) (by omega) rfl)
   have hz2:(0:Int)≤(1:Int):=(by omega)
   obtain ⟨x2,o3,h⟩:=h
   have hz3:(0:Int)≤IntKind.wrap IntKind.i64 (Int.fdiv (↑(i+j):Int) (2 ^ min (Int.toNat 1) (IntKind.bits IntKind.u64)))∧(encs v)[Int.toNat (IntKind.wrap IntKind.i64 (Int.fdiv (↑(i+j):Int) (2 ^ min (Int.toNat 1) (IntKind.bits IntKind.u64))))]? = some (enc x2):=(el_int o3)
   have hz4:=(@Go.Tx.order_c (x2) (b))
   by_cases c4:(ordM x2 b<(0:Int))
   · have h:=h.1 c4
     exact loop_next [kt (decide_eq_true c1),kv 20 hz0,kv 21 hz1,ko (Orc.elem (enc x2)),kp hz2,kp hz3,kc [] hz4,kt (decide_eq_true c4),kv 33 (show Am.Sub (int (IntKind.wrap IntKind.i64 (IntKind.wrap IntKind.i64 (Int.fdiv (↑(i+j):Int) (2 ^ min (Int.toNat 1) (IntKind.bits IntKind.u64)))+1))) (int (midV i j+1)) from (Sub.of_wrap (by omega) (by omega) rfl))] (others 49 [0,2,4,8,9,10]) 1 h (by kernel_rfl)
   · have h:=h.2 c4
     exact loop_next [kt (decide_eq_true c1),kv 20 hz0,kv 21 hz1,ko (Orc.elem (enc x2)),kp hz2,kp hz3,kc [] hz4,kf (decide_eq_false c4)] (others 49 [0,2,4,8,9,10]) 1 h (by kernel_rfl)
 · have h:=h.2 c1
   obtain ⟨eX,eS⟩:=h
   exact RunL.to ((show RunL P G none 0 (loopAt P 57 0) (bsS v b i j) (AEx.exit 0) (St.mk (slots 49 [(0,AV.sl 11 false (encs v)),(2,AV.lit (Value.func (Fn.func 43) (Array.mk []) (Array.mk []))),(4,AV.ptr 0 0),(8,int (↑(List.length v):Int)),(9,int (↑i:Int))]) [AObj.box [int (MK.dv b),int (MK.sq b),int (MK.tm b),int (MK.fd b),int (MK.fs b),int (MK.fa b),int (MK.td b),int (MK.ts b),int (MK.ta b),int (MK.st b),Am.bool (MK.on b)]] []) from loop_exit [kf (decide_eq_false c1)] (others 49 [0,2,4,8,9]) 1 (by kernel_rfl))) eX (SubS.of_eq eS)
theorem bs_e (v:List MK) (b:MK) (i j:Nat) (hij:¬ (i:Int)<(j:Int)) (h:True):RunL P G none 0 (loopAt P 57 0) (bsS v b i j) (AEx.exit 0) (bsX v b i):=by
 have _:=h
 exact loop_exit [kf (show decide ((↑i:Int)<(↑j:Int))=false from (decide_eq_false (by omega)))] (others 49 [0,2,4,8,9]) 1 (by kernel_rfl)
theorem bsf_w (v:List MK) (b:MK) (p:Nat) (hp:p≤v.length) (hv:v.length≤1000000000) (hL:RunL P G none 0 (loopAt P 57 0) (bsS v b 0 v.length) (.exit 0) (bsX v b p)) (r:Bool) (h:((((↑p:Int)<(↑(List.length v):Int))→(∃ x2:MK,(v[p]? = some x2)∧(ordM x2 b == 0)=(r)))∧((¬(↑p:Int)<(↑(List.length v):Int))→(false)=(r)))):CallC P G 57 [mks v,mke b,fnF 43] [] (AOut.ret (AV.tup [int (↑p:Int),Am.bool r])) []:=by
 have hz0:Am.Sub (int (↑(List.length (encs v)):Int)) (int (↑(List.length v):Int)):=(Sub.of_eq (by simp only [Go.Tx.encs_length,Int.toNat_natCast]))
 have hz1:=(@hL )
 by_cases c1:((↑p:Int)<(↑(List.length v):Int))
 · have h:=h.1 c1
   obtain ⟨x2,o3,h⟩:=h
   have e1:=h
   exact CallC.out ((show CallC P G 57 [mks v,mke b,fnF 43] [] (AOut.ret (AV.tup [int (↑p:Int),Am.bool (ordM x2 b == 0)])) [] from callC_of [kv 13 hz0,kl [1,3,5,6,7,11,12,13,14,15,16,17,18,19,20,21,22,23,24,25,26,27,28,29,30,31,32,33,34,35,36,37,38,39,40,41,42,43,44,45,46,47,48] 1 hz1,kt (decide_eq_true c1),ko (Orc.elem (enc x2)),kp (show (0:Int)≤(↑p:Int)∧(encs v)[Int.toNat (↑p:Int)]? = some (enc x2) from (el_nat o3)),kc [] (@Go.Tx.order_c (x2) (b))] (by kernel_rfl))) (Sub.tups ⟨Sub.refl _,(Sub.bool_eq e1),trivial⟩)
 · have h:=h.2 c1
   have e1:=h
   exact CallC.out ((show CallC P G 57 [mks v,mke b,fnF 43] [] (AOut.ret (AV.tup [int (↑p:Int),Am.bool false])) [] from callC_of [kv 13 hz0,kl [1,3,5,6,7,11,12,13,14,15,16,17,18,19,20,21,22,23,24,25,26,27,28,29,30,31,32,33,34,35,36,37,38,39,40,41,42,43,44,45,46,47,48] 1 hz1,kf (decide_eq_false c1)] (by kernel_rfl))) (Sub.tups ⟨Sub.refl _,(Sub.bool_eq e1),trivial⟩)
theorem ins_e0 (x:List MK) (b:MK) (i:Int) (hi:i=(x.length:Int)) (hx:x.length≤1000000000) (h:True):CallC P G 58 [AV.own 0 0 0 (List.length x),int i,AV.sl 11 true [enc b]] [AObj.arr 0 11 false (encs x)] (AOut.ret (mks (x++[b]))) [AObj.gone]:=by
 have hz0:0=0:=(rfl)
 have _:=h
 exact CallC.heapSub ((show CallC P G 58 [AV.own 0 0 0 (List.length x),int i,AV.sl 11 true [enc b]] [AObj.arr 0 11 false (encs x)] (AOut.ret (AV.sl 11 false (encs (x++[MK.mk (MK.dv b) (MK.sq b) (MK.tm b) (MK.fd b) (MK.fs b) (MK.fa b) (MK.td b) (MK.ts b) (MK.ta b) (MK.st b) (MK.on b)])))) [AObj.arr 1 11 true (encs (x++[MK.mk (MK.dv b) (MK.sq b) (MK.tm b) (MK.fd b) (MK.fs b) (MK.fa b) (MK.td b) (MK.ts b) (MK.ta b) (MK.st b) (MK.on b)]))] from callC_of [kp hz0,kp (show (0:Int)≤i∧i≤(↑(List.length x):Int)∧(↑(List.length x):Int)≤(↑(List.length x):Int) from (by omega)),kf (Eq.refl false),kp hz0,kt (show (i == (↑(List.length x):Int))=true from (decide_eq_true (by omega))),ko (Orc.hp (some 25) (AV.own 0 1 0 (List.length (x++[MK.mk (MK.dv b) (MK.sq b) (MK.tm b) (MK.fd b) (MK.fs b) (MK.fa b) (MK.td b) (MK.ts b) (MK.ta b) (MK.st b) (MK.on b)]))) [AObj.arr 1 11 false (encs (x++[MK.mk (MK.dv b) (MK.sq b) (MK.tm b) (MK.fd b) (MK.fs b) (MK.fa b) (MK.td b) (MK.ts b) (MK.ta b) (MK.st b) (MK.on b)]))]),ko (Orc.frz (encs (x++[MK.mk (MK.dv b) (MK.sq b) (MK.tm b) (MK.fd b) (MK.fs b) (MK.fa b) (MK.td b) (MK.ts b) (MK.ta b) (MK.st b) (MK.on b)]))),kp (show Am.Sub (AV.own 0 1 0 (List.length x+1)) (AV.own 0 1 0 (List.length (x++[MK.mk (MK.dv b) (MK.sq b) (MK.tm b) (MK.fd b) (MK.fs b) (MK.fa b) (MK.td b) (MK.ts b) (MK.ta b) (MK.st b) (MK.on b)]))) from (Sub.of_eq (by simp [Go.Tx.encs_ids,Go.Tx.encs_pure,Go.Tx.encs_all,Go.Tx.encs_length]))),kp (show Am.HSub [AObj.arr 1 11 false (encs x++[[int (MK.dv b),int (MK.sq b),int (MK.tm b),int (MK.fd b),int (MK.fs b),int (MK.fa b),int (MK.td b),int (MK.ts b),int (MK.ta b),int (MK.st b),Am.bool (MK.on b)]])] [AObj.arr 1 11 false (encs (x++[MK.mk (MK.dv b) (MK.sq b) (MK.tm b) (MK.fd b) (MK.fs b) (MK.fa b) (MK.td b) (MK.ts b) (MK.ta b) (MK.st b) (MK.on b)]))] from (⟨.inl (by simp only [Go.Tx.encs_append,Go.Tx.encs_mk]),trivial⟩)),kp hz0,kp (show List.length x=List.length (encs x) from ((Go.Tx.encs_length _).symm)),kp (show (List.length x+1) * 88≤140737488355328 from (by omega)),kp (show 1=1 from (rfl)),kp (show List.take (List.length (x++[MK.mk (MK.dv b) (MK.sq b) (MK.tm b) (MK.fd b) (MK.fs b) (MK.fa b) (MK.td b) (MK.ts b) (MK.ta b) (MK.st b) (MK.on b)])) (List.drop 0 (encs (x++[MK.mk (MK.dv b) (MK.sq b) (MK.tm b) (MK.fd b) (MK.fs b) (MK.fa b) (MK.td b) (MK.ts b) (MK.ta b) (MK.st b) (MK.on b)])))=encs (x++[MK.mk (MK.dv b) (MK.sq b) (MK.tm b) (MK.fd b) (MK.fs b) (MK.fa b) (MK.td b) (MK.ts b) (MK.ta b) (MK.st b) (MK.on b)]) from (Go.Tx.encs_all _)),kp (show List.length (encs (x++[MK.mk (MK.dv b) (MK.sq b) (MK.tm b) (MK.fd b) (MK.fs b) (MK.fa b) (MK.td b) (MK.ts b) (MK.ta b) (MK.st b) (MK.on b)]))=List.length (x++[MK.mk (MK.dv b) (MK.sq b) (MK.tm b) (MK.fd b) (MK.fs b) (MK.fa b) (MK.td b) (MK.ts b) (MK.ta b) (MK.st b) (MK.on b)]) from (Go.Tx.encs_length _)),kp (show ∀ (c:List AV),c∈encs (x++[MK.mk (MK.dv b) (MK.sq b) (MK.tm b) (MK.fd b) (MK.fs b) (MK.fa b) (MK.td b) (MK.ts b) (MK.ta b) (MK.st b) (MK.on b)])→List.all c AV.pureB=true from (Go.Tx.encs_pure _))] (by kernel_rfl))) (by exact ⟨.inr trivial,trivial⟩)
theorem ins_z (x:List MK) (b:MK) (i:Int) (hi:i=(x.length:Int)) (hx:x.length≤1000000000) (h:True):CallC P G 58 [AV.sl 11 true (encs x),int i,AV.sl 11 true [enc b]] [] (AOut.ret (mks (x++[b]))) []:=by
 have _:=h
 exact callC_of [kv 12 (show Am.Sub (AV.sl 11 true (List.drop (Int.toNat i) (List.take (Int.toNat (↑(List.length (encs x)):Int)) (encs x)))) (AV.sl 11 true (List.drop (Int.toNat i) (List.take (Int.toNat (↑(List.length x):Int)) (encs x)))) from (Sub.of_eq (by simp only [Go.Tx.encs_length]))),kp (show (0:Int)≤i∧i≤(↑(List.length (encs x)):Int)∧(↑(List.length (encs x)):Int)≤(↑(List.length (encs x)):Int) from (by rw [Go.Tx.encs_length]; omega)),kf (Eq.refl false),kv 19 (show Am.Sub (int (↑(List.length (encs x)):Int)) (int (↑(List.length x):Int)) from (Sub.of_eq (by simp only [Go.Tx.encs_length]))),kt (show (i == (↑(List.length x):Int))=true from (decide_eq_true (by omega))),ko (Orc.hp (some 25) (AV.own 0 0 0 (List.length (x++[MK.mk (MK.dv b) (MK.sq b) (MK.tm b) (MK.fd b) (MK.fs b) (MK.fa b) (MK.td b) (MK.ts b) (MK.ta b) (MK.st b) (MK.on b)]))) [AObj.arr 0 11 false (encs (x++[MK.mk (MK.dv b) (MK.sq b) (MK.tm b) (MK.fd b) (MK.fs b) (MK.fa b) (MK.td b) (MK.ts b) (MK.ta b) (MK.st b) (MK.on b)]))]),ko (Orc.frz (encs (x++[MK.mk (MK.dv b) (MK.sq b) (MK.tm b) (MK.fd b) (MK.fs b) (MK.fa b) (MK.td b) (MK.ts b) (MK.ta b) (MK.st b) (MK.on b)]))),kp (show Am.Sub (AV.own 0 0 0 (List.length (encs x)+1)) (AV.own 0 0 0 (List.length (x++[MK.mk (MK.dv b) (MK.sq b) (MK.tm b) (MK.fd b) (MK.fs b) (MK.fa b) (MK.td b) (MK.ts b) (MK.ta b) (MK.st b) (MK.on b)]))) from (Sub.of_eq (by simp [Go.Tx.encs_ids,Go.Tx.encs_pure,Go.Tx.encs_length,Go.Tx.encs_all]))),kp (show Am.HSub [AObj.arr 0 11 false (encs x++[[int (MK.dv b),int (MK.sq b),int (MK.tm b),int (MK.fd b),int (MK.fs b),int (MK.fa b),int (MK.td b),int (MK.ts b),int (MK.ta b),int (MK.st b),Am.bool (MK.on b)]])] [AObj.arr 0 11 false (encs (x++[MK.mk (MK.dv b) (MK.sq b) (MK.tm b) (MK.fd b) (MK.fs b) (MK.fa b) (MK.td b) (MK.ts b) (MK.ta b) (MK.st b) (MK.on b)]))] from (⟨.inl (by simp only [Go.Tx.encs_append,Go.Tx.encs_mk]),trivial⟩)),kp (show [[int (MK.dv b),int (MK.sq b),int (MK.tm b),int (MK.fd b),int (MK.fs b),int (MK.fa b),int (MK.td b),int (MK.ts b),int (MK.ta b),int (MK.st b),Am.bool (MK.on b)]]≠[] from (by simp)),kp (show (List.length (encs x)+1) * 88≤140737488355328 from (by simp only [List.length_append,List.length_cons,List.length_nil,List.length_map,Go.Tx.encs_ids,Go.Tx.encs_pure,Go.Tx.encs_length,Go.Tx.encs_all]<;>omega)),kp (show 0=0 from (rfl)),kp (show List.take (List.length (x++[MK.mk (MK.dv b) (MK.sq b) (MK.tm b) (MK.fd b) (MK.fs b) (MK.fa b) (MK.td b) (MK.ts b) (MK.ta b) (MK.st b) (MK.on b)])) (List.drop 0 (encs (x++[MK.mk (MK.dv b) (MK.sq b) (MK.tm b) (MK.fd b) (MK.fs b) (MK.fa b) (MK.td b) (MK.ts b) (MK.ta b) (MK.st b) (MK.on b)])))=encs (x++[MK.mk (MK.dv b) (MK.sq b) (MK.tm b) (MK.fd b) (MK.fs b) (MK.fa b) (MK.td b) (MK.ts b) (MK.ta b) (MK.st b) (MK.on b)]) from (Go.Tx.encs_all _)),kp (show List.length (encs (x++[MK.mk (MK.dv b) (MK.sq b) (MK.tm b) (MK.fd b) (MK.fs b) (MK.fa b) (MK.td b) (MK.ts b) (MK.ta b) (MK.st b) (MK.on b)]))=List.length (x++[MK.mk (MK.dv b) (MK.sq b) (MK.tm b) (MK.fd b) (MK.fs b) (MK.fa b) (MK.td b) (MK.ts b) (MK.ta b) (MK.st b) (MK.on b)]) from (Go.Tx.encs_length _)),kp (show ∀ (c:List AV),c∈encs (x++[MK.mk (MK.dv b) (MK.sq b) (MK.tm b) (MK.fd b) (MK.fs b) (MK.fa b) (MK.td b) (MK.ts b) (MK.ta b) (MK.st b) (MK.on b)])→List.all c AV.pureB=true from (Go.Tx.encs_pure _))] (by kernel_rfl)
theorem ins_c (x:List MK) (b:MK) (i:Nat) (hi:i≤x.length) (hx:x.length≤1000000000):CallC P G 58 [.own 0 0 0 x.length,int i,.sl 11 true [enc b]] [.arr 0 11 false (encs x)] (.ret (mks (x.take i++[b]++x.drop i))) [.gone]:=by
 rcases Nat.lt_or_ge i x.length with h | h
 · have:=ins_in x [] b i h hx
   rwa [List.append_nil] at this
 · have e:i=x.length:=by omega
   subst e
   rw [List.take_length,List.drop_length,List.append_nil]
   exact ins_e0 x b _ rfl hx trivial
theorem cl_w (v:List MK) (hv:v.length≤1000000000) (hne:¬ encs v=[]) (h:True):CallC P G 59 [mks v] [] (AOut.ret (AV.own 0 0 0 (List.length v))) [AObj.arr 0 11 false (encs v)]:=by
 have _:=h
 exact callC_of [kp (show encs v≠[] from (by omega)),kf (Eq.refl false),kv 7 (show Am.Sub (AV.own 0 0 0 (0+List.length (encs v))) (AV.own 0 0 0 (List.length v)) from (Sub.of_eq (by simp [Go.Tx.encs_length,Go.Tx.encs_ids,Go.Tx.encs_pure,Go.Tx.encs_all]))),kp hne,kp (show (0+List.length (encs v)) * 88≤140737488355328 from (by simp only [List.length_append,List.length_cons,List.length_nil,List.length_map,Go.Tx.encs_length,Go.Tx.encs_ids,Go.Tx.encs_pure,Go.Tx.encs_all]<;>omega))] (by kernel_rfl)
theorem clz_n (n:Nat) (h:Sub (nilS) (AV.sl 11 true [])):CallC P G 59 [AV.lit (Value.slice none 0 n)] [] (AOut.ret (AV.sl 11 true [])) []:=by
 have e1:=h
 exact CallC.out ((show CallC P G 59 [AV.lit (Value.slice none 0 n)] [] (AOut.ret nilS) [] from callC_of [kt (Eq.refl true)] (by kernel_rfl))) e1
theorem clz_a (a:Addr) (n:Nat) (h:True):CallC P G 59 [AV.lit (Value.slice (some a) 0 n)] [] (AOut.ret (AV.sl 11 true [])) []:=by
 have _:=h
 exact callC_of [kf (Eq.refl false),ko (Orc.emp),kp (show []=[] from (Am.nil_nil))] (by kernel_rfl)
theorem nilT (sz:Nat):Sub (.lit (.slice none 0 0)) (.sl sz true []):=fun V v h=>by
 rw [rep_lit h]
 exact .pure _ _ (.sl sz true [] none 0 0 0 (fun _ _=>undef) (fun h=>absurd rfl h) (fun h=>absurd rfl h) (Nat.le_refl _) (fun _=>rfl) (fun x hx=>by cases hx) (fun k j hk=>absurd hk (Nat.not_lt_zero _)) (fun k j hk=>absurd hk (Nat.not_lt_zero _)) fun k j hk=>absurd hk (Nat.not_lt_zero _))
theorem clone_z:CallC P G 59 [mks []] [] (.ret (.sl 11 true [])) []:=CallC.slEmpty (fun cap=>clz_n cap (nilT 11)) fun a cap=>clz_a a cap trivial
theorem clone_c (v:List MK) (hv:v.length≤1000000000) (hne:v≠[]):CallC P G 59 [mks v] [] (.ret (.own 0 0 0 v.length)) [.arr 0 11 false (encs v)]:=cl_w v hv (fun h=>hne (by simpa [encs] using h)) trivial
def plcM (m:MK) (v:List MK):Nat:=(v.takeWhile fun a=>lessM a m).length
theorem plcM_le (m:MK) (v:List MK):plcM m v≤v.length:=(List.takeWhile_sublist _).length_le
theorem less_iff {a b:MK}:lessM a b=true↔a.tm<b.tm∨a.tm=b.tm∧(a.dv<b.dv∨a.dv=b.dv∧a.sq<b.sq):=by
 unfold lessM
 grind
theorem less_trans {a b c:MK} (h:lessM a b=true) (k:lessM b c=true):lessM a c=true:=by
 rw [less_iff] at *; omega
theorem plcM_lt {b:MK}:∀ {v:List MK} (_:v.Pairwise fun a c=>lessM a c=true) {m:Nat} (hm:m<v.length),lessM v[m] b=true↔m<plcM b v
 | [],_,m,hm=>absurd hm (by simp)
 | a::t,hs,m,hm=>by
  rw [List.pairwise_cons] at hs
  cases hl:lessM a b with
  | true =>
   have e:plcM b (a::t)=plcM b t+1:=by simp [plcM,hl]
   rw [e]
   cases m with
   | zero=>simp [hl]
   | succ m =>
    have:=plcM_lt hs.2 (b:=b) (m:=m) (by simpa using hm)
    simpa using this
  | false =>
   have e:plcM b (a::t)=0:=by simp [plcM,hl]
   rw [e]
   cases m with
   | zero=>simp [hl]
   | succ m =>
    have hlt:m<t.length:=by simpa using hm
    have h1:=hs.1 t[m] (List.getElem_mem _)
    simp only [List.getElem_cons_succ,Nat.not_lt_zero,iff_false]
    intro h2
    rw [less_trans h1 h2] at hl
    cases hl
theorem bs_loop (v:List MK) (b:MK) (hv:v.length≤1000000000) (hs:v.Pairwise fun a c=>lessM a c=true):∀ n i j,j - i≤n→i≤plcM b v→plcM b v≤j→j≤v.length→RunL P G none 0 (loopAt P 57 0) (bsS v b i j) (.exit 0) (bsX v b (plcM b v)):=by
 intro n
 have he:∀ i j,i≤plcM b v→plcM b v≤j→¬ i<j→RunL P G none 0 (loopAt P 57 0) (bsS v b i j) (.exit 0) (bsX v b (plcM b v)):=fun i j h1 h2 hij=>by
  have:=bs_e v b i j (by omega) trivial
  rwa [show i=plcM b v by omega] at this ⊢
 induction n with
 | zero=>intro i j hn h1 h2 h3; exact he i j h1 h2 (by omega)
 | succ n ih =>
  intro i j hn h1 h2 h3
  by_cases hij:i<j
  · have hm:=midV_eq (i:=i) (j:=j) (by omega)
    refine bs_w v b i j ((i+j) / 2) h3 hv hm hm (by omega) _ _ ⟨fun _=>?_,fun h=>absurd (by omega) h⟩
    have hlt:(i+j) / 2<v.length:=by omega
    refine ⟨v[(i+j) / 2],?_,fun hq=>?_,fun hq=>?_⟩
    · rw [hm,Int.toNat_natCast]; exact ⟨by omega,List.getElem?_eq_getElem hlt⟩
    · have:=(plcM_lt hs hlt).1 ((ordM_lt _ _).1 hq)
      have nx:=ih ((i+j) / 2+1) j (by omega) (by omega) h2 h3
      rw [hm]
      exact nx
    · have:¬ (i+j) / 2<plcM b v:=fun h=>hq ((ordM_lt _ _).2 ((plcM_lt hs hlt).2 h))
      have nx:=ih i ((i+j) / 2) (by omega) h1 (by omega) (by omega)
      rw [hm]
      exact nx
  · exact he i j h1 h2 hij
theorem bin_c (v:List MK) (b:MK) (hv:v.length≤1000000000) (hs:v.Pairwise fun a c=>lessM a c=true):∃ r,CallC P G 57 [mks v,mke b,fnF 43] [] (.ret (.tup [int (plcM b v),bool r])) []:=by
 have hp:=plcM_le b v
 have hL:=bs_loop v b hv hs _ 0 v.length (Nat.le_refl _) (by omega) hp (by omega)
 rcases Nat.lt_or_ge (plcM b v) v.length with h | h
 · exact ⟨ordM v[plcM b v] b == 0,bsf_w v b _ hp hv hL _ ⟨fun _=>⟨v[plcM b v],List.getElem?_eq_getElem h,rfl⟩,fun h'=>absurd (by omega) h'⟩⟩
 · exact ⟨false,bsf_w v b _ hp hv hL _ ⟨fun h'=>absurd h' (by omega),fun _=>rfl⟩⟩
theorem add_a (t:TE) (m:MK) (e:Int) (he:e≠0) (hc:CallC P G 17 [txt t] [] (.ret (int e)) []) (h:True):CallC P G 32 [txt t,mke m] [] (AOut.ret (AV.tup [txt zT,int e])) []:=by
 have _:=h
 exact CallC.out ((show CallC P G 32 [txt t,mke m] [] (AOut.ret (AV.tup [AV.agg [nilS,nilS],int e])) [] from callC_of [kc [] (@hc ),kt (show (e != 0)=true from (congrArg Bool.not (decide_eq_false (by omega))))] (by kernel_rfl))) (Sub.tups ⟨(Sub.aggs ⟨Sub.nil _,Sub.nil _,trivial⟩),Sub.refl _,trivial⟩)
theorem add_b (t:TE) (m:MK) (hc:CallC P G 17 [txt t] [] (.ret (int 0)) []) (hi:CallC P G 42 [ces t.cells,mke m] [] (.ret (bool false)) []) (h:True):CallC P G 32 [txt t,mke m] [] (AOut.ret (AV.tup [txt zT,int 160])) []:=by
 have _:=h
 exact CallC.out ((show CallC P G 32 [txt t,mke m] [] (AOut.ret (AV.tup [AV.agg [nilS,nilS],int 160])) [] from callC_of [kc [] (@hc ),kf (Eq.refl false),kc [] (@hi ),kt (Eq.refl true),kt (Eq.refl true)] (by kernel_rfl))) (Sub.tups ⟨(Sub.aggs ⟨Sub.nil _,Sub.nil _,trivial⟩),Sub.refl _,trivial⟩)
theorem add_m (t:TE) (m:MK) (hc:CallC P G 17 [txt t] [] (.ret (int 0)) []) (hi:CallC P G 42 [ces t.cells,mke m] [] (.ret (bool true)) []) (hF:CallC P G 55 [mks t.marks,a1F 0] [.box (enc m)] (.ret (bool true)) [.box (enc m)]) (h:True):CallC P G 32 [txt t,mke m] [] (AOut.ret (AV.tup [txt zT,int 160])) []:=by
 have _:=h
 exact CallC.out ((show CallC P G 32 [txt t,mke m] [] (AOut.ret (AV.tup [AV.agg [nilS,nilS],int 160])) [] from callC_of [kc [] (@hc ),kf (Eq.refl false),kc [] (@hi ),kf (Eq.refl false),kc [1] (@hF ),kt (Eq.refl true)] (by kernel_rfl))) (Sub.tups ⟨(Sub.aggs ⟨Sub.nil _,Sub.nil _,trivial⟩),Sub.refl _,trivial⟩)
theorem add_w (t:TE) (m:MK) (p:Nat) (f:Bool) (r:List MK) (hc:CallC P G 17 [txt t] [] (.ret (int 0)) []) (hi:CallC P G 42 [ces t.cells,mke m] [] (.ret (bool true)) []) (hF:CallC P G 55 [mks t.marks,a1F 0] [.box (enc m)] (.ret (bool false)) [.box (enc m)]) (hB:CallC P G 57 [mks t.marks,mke m,fnF 43] [] (.ret (.tup [int p,bool f])) []) (hC:CallC P G 59 [mks t.marks] [] (.ret (.own 0 0 0 t.marks.length)) [.arr 0 11 false (encs t.marks)]) (hI:CallC P G 58 [.own 0 0 0 t.marks.length,int p,.sl 11 true [enc m]] [.arr 0 11 false (encs t.marks)] (.ret (mks r)) [.gone]) (h:True):CallC P G 32 [txt t,mke m] [] (AOut.ret (AV.tup [AV.agg [ces (TE.cells t),mks r],int 0])) []:=by
 have hz5:∀ (x:List AV),x∈encs (TE.marks t)→AV.idsInL [] x=true:=(Go.Tx.encs_ids _)
 have _:=h
 exact callC_of [kc [] (@hc ),kf (Eq.refl false),kc [] (@hi ),kf (Eq.refl false),kc [1] (@hF ),kf (Eq.refl false),kc [] (@hB ),kc [] (@hC ),kp hz5,kc [3] (@hI ),kp hz5] (by kernel_rfl)
theorem add_z (t:TE) (m:MK) (f:Bool) (r:List MK) (hc:CallC P G 17 [txt t] [] (.ret (int 0)) []) (hi:CallC P G 42 [ces t.cells,mke m] [] (.ret (bool true)) []) (hF:CallC P G 55 [mks t.marks,a1F 0] [.box (enc m)] (.ret (bool false)) [.box (enc m)]) (hB:CallC P G 57 [mks t.marks,mke m,fnF 43] [] (.ret (.tup [int 0,bool f])) []) (hC:CallC P G 59 [mks t.marks] [] (.ret (.sl 11 true [])) []) (hI:CallC P G 58 [.sl 11 true [],int 0,.sl 11 true [enc m]] [] (.ret (mks r)) []) (h:True):CallC P G 32 [txt t,mke m] [] (AOut.ret (AV.tup [AV.agg [ces (TE.cells t),mks r],int 0])) []:=by
 have _:=h
 exact callC_of [kc [] (@hc ),kf (Eq.refl false),kc [] (@hi ),kf (Eq.refl false),kc [1] (@hF ),kf (Eq.refl false),kc [] (@hB ),kc [] (@hC ),kc [] (@hI )] (by kernel_rfl)
end Go.Tx


namespace Go.Tx
open Go Go.Am Go.Proofs Go.Seat
open Go.Sq (CE cel ces ida idv pid fX fiO OkRs chkE)
end Go.Tx


namespace Go.Tx
open Go Go.Am Go.Proofs Go.Seat
open Go.Sq (CE cel ces ida idv pid fX fiO OkRs chkE)
end Go.Tx


namespace Go.Tx
open Go Go.Am Go.Proofs Go.Seat
open Go.Sq (CE cel ces ida idv pid fX fiO OkRs chkE)
end Go.Tx


namespace Go.Sq
open Go Go.Am Go.Proofs Go.Seat
def xs1:ByteArray:=⟨#[120]⟩
def ceM (d s t a b c:Int):CE:=⟨d,s,0,a,b,c,t,xs1,false⟩
end Go.Sq


namespace Go.Sq
open Go Go.Am Go.Proofs Go.Seat
theorem e2_defs {V V':View} {l:List Deferred} (h:DefsRep V [] l):DefsRep V' [] l:=by
 cases l with
 | nil=>exact .nil
 | cons d l=>cases h
end Go.Sq


namespace Go.Sq
open Go Go.Am Go.Proofs Go.Seat
def ca:CE:=ceM 0 1 1 0 0 0
def cb:CE:=ceM 1 1 2 0 1 0
def cc:CE:=ceM 2 1 3 0 1 0
def cg:CE:={ ca with gn:=true }
def cd:CE:=ceM 3 1 9 0 1 0
def cu:CE:=ceM 0 1 1 1 1 0
def cv:CE:=ceM 1 1 2 0 0 0
theorem okr_all (l:List CE) (h:(l.all fun x=>decide (-9223372036854775808≤x.dv∧x.dv<9223372036854775808∧-9223372036854775808≤x.sq∧x.sq<9223372036854775808∧-9223372036854775808≤x.at'∧x.at'<9223372036854775808∧-9223372036854775808≤x.ad∧x.ad<9223372036854775808∧-9223372036854775808≤x.as'∧x.as'<9223372036854775808∧-9223372036854775808≤x.aa∧x.aa<9223372036854775808))=true):OkRs l:=fun x hx=>by
 have:=List.all_eq_true.1 h x hx
 simp only [decide_eq_true_eq] at this
 unfold OkR InR
 omega
theorem sn_1:CallC P G 63 [ces [ca,cb,cc]] [] (.ret (.tup [ces [ca,cc,cb],int 0])) []:=order_c [ca,cb,cc] (by decide) (okr_all _ (by decide))
theorem sn_2:CallC P G 63 [ces [cu,cb]] [] (.ret (.tup [ces [],int 130])) []:=order_c [cu,cb] (by decide) (okr_all _ (by decide))
theorem sn_5:CallC P G 52 [ces [cg,cc,cb],cel cd] [] (.ret (.tup [ces [cg,cd,cc,cb],int 0])) []:=ins_c [cg,cc,cb] cd (by decide) (okr_all _ (by decide)) (okr_all [cd] (by decide) cd (by simp))
theorem sn_6:CallC P G 63 [ces [ca,cv]] [] (.ret (.tup [ces [cv,ca],int 0])) []:=order_c [ca,cv] (by decide) (okr_all _ (by decide))
theorem sn_7:CallC P G 54 [ces [cg,cd,cc,cb],ida 2 1 0] [] (.ret (.tup [int 2,bool true])) []:=find_c [cg,cd,cc,cb] 2 1 0 (by decide)
theorem sn_8:CallC P G 70 [ces [ca,cc,cb],ces [ca,cc,cb]] [] (.ret (bool true)) []:=rsame_c [ca,cc,cb] [ca,cc,cb] (by decide) (by decide)
theorem sn_9:CallC P G 39 [ces [cg,cd,cc,cb]] [] (.ret (int 0)) []:=chk_c [cg,cd,cc,cb] (by decide) (okr_all _ (by decide))
theorem sn_10:CallC P G 39 [ces [ca,cb,cc]] [] (.ret (int 130)) []:=chk_c [ca,cb,cc] (by decide) (okr_all _ (by decide))
end Go.Sq


namespace Go.Sq
open Go Go.Am Go.Proofs Go.Seat
end Go.Sq


namespace Go.Sq
open Go Go.Am Go.Proofs Go.Seat
end Go.Sq


namespace Go.Sq
open Go Go.Am Go.Proofs Go.Seat
end Go.Sq


namespace Go.Sq
open Go Go.Am Go.Proofs Go.Seat
theorem ordV_mem {l:List CE} {x:CE} (h:x∈ordV l):x∈l:=by
 unfold ordV at h
 split at h
 · rename_i hf
   exact ((mem_all (forms_iff.1 hf).1).1 h).1
 · cases h
theorem OkRs.ord {l:List CE} (h:OkRs l):OkRs (ordV l):=fun x hx=>h x (ordV_mem hx)
theorem insV_len (l:List CE) (c:CE):(insV l c).length≤l.length+1:=by
 unfold insV
 split
 · simp
 · split
   · simp
   · have:=ordV_len (l++[c]); simpa using this
end Go.Sq


namespace Go.Sq
open Go Go.Am Go.Proofs Go.Seat
theorem cz3:Tryd.prog.cellsOf 3=1:=by kernel_rfl
theorem cz4:Tryd.prog.cellsOf 4=1:=by kernel_rfl
theorem cz9:Tryd.prog.cellsOf 9=1:=by kernel_rfl
theorem cz22:Tryd.prog.cellsOf 22=1:=by kernel_rfl
theorem cz31:Tryd.prog.cellsOf 45=3:=by kernel_rfl
theorem cz33:Tryd.prog.cellsOf 58=9:=by kernel_rfl
noncomputable def cInt:Cod Tryd.prog 3 Int:=Cod.int Tryd.underlying3 cz3
noncomputable def cStr:Cod Tryd.prog 9 ByteArray:=Cod.str Tryd.underlying9 cz9
noncomputable def cBool:Cod Tryd.prog 4 Bool:=Cod.bool Tryd.underlying4 cz4
noncomputable def cID:Cod Tryd.prog 45 (Int × Int × Int):=Cod.struct Tryd.underlying45 (by kernel_rfl) (FCod.cons cInt rfl (FCod.cons cInt (by kernel_rfl) (FCod.cons cInt (by kernel_rfl) FCod.nil))) (fun a=>(a.1,a.2.1,a.2.2.1)) (fun a=>[Am.int a.1,Am.int a.2.1,Am.int a.2.2]) (fun _=>rfl) (fun _=>cz31.symm)
abbrev AC:=(Int × Int × Int) × (Int × Int × Int) × Int × ByteArray × Bool × Unit
noncomputable def cCE:Cod Tryd.prog 58 CE:=Cod.struct Tryd.underlying58 (by kernel_rfl) (FCod.cons cID rfl (FCod.cons cID (by kernel_rfl) (FCod.cons cInt (by kernel_rfl) (FCod.cons cStr (by kernel_rfl) (FCod.cons cBool (by kernel_rfl) FCod.nil)))))
 (fun a:AC=>⟨a.1.1,a.1.2.1,a.1.2.2,a.2.1.1,a.2.1.2.1,a.2.1.2.2,a.2.2.1,a.2.2.2.1,a.2.2.2.2.1⟩) enc (fun a:AC=>rfl) (fun _=>cz33.symm)
noncomputable def cCells:Cod Tryd.prog 22 (List CE):=Cod.slice Tryd.underlying22 cz22 (by rw [cz33]; decide) cCE
theorem cCells_enc (v:List CE):cCells.enc v=[ces v]:=by
 show [AV.sl (Tryd.prog.cellsOf 58) false (v.map enc)]=[AV.sl 9 false (v.map enc)]
 rw [cz33]
theorem cID_ok {i:Int × Int × Int} (h:cID.good i):InR i.1∧InR i.2.1∧InR i.2.2:=by
 obtain ⟨⟨_,_,_,_⟩,rfl,f1,f2,f3,_⟩:=h
 exact ⟨f1,f2,f3⟩
theorem cCE_ok {c:CE} (h:cCE.good c):OkR c:=by
 obtain ⟨⟨_,_,_,_,_,_⟩,rfl,f1,f2,_⟩:=h
 exact ⟨cID_ok f1,cID_ok f2⟩
theorem reads_id {H:Type} {enc:TypeId × Value→H} {W:World} {base:Nat} {v:Value} {d:DataW H} {ps:List MemPlace} (hv:Value.okWide Tryd.prog W .any base 45 v) (h:DataW.Trod enc Tryd.prog W 0 (fun _=>true) true 45 v d ps):∃ i:Int × Int × Int,(InR i.1∧InR i.2.1∧InR i.2.2)∧Rep (view0 W) (ida i.1 i.2.1 i.2.2) v:=by
 have hagg:∃ cs,v = .agg cs:=by
  unfold Value.okWide at hv
  rw [Tryd.underlying45] at hv
  exact ⟨_,hv.choose_spec.1⟩
 obtain ⟨⟨cs⟩,rfl⟩:=hagg
 obtain ⟨n,hn⟩:=h
 have hn':DataW.trod enc Tryd.prog W 0 (fun _=>true) true n 45 cs=some (d,ps):=hn
 obtain ⟨o,g,hl,hp⟩:=cID.rd hn'
 exact ⟨o,cID_ok g,.agg _ _ hl fun j hj=>.pure _ _ (hp j (by rw [hl]; exact hj)).1⟩
end Go.Sq


namespace Go.Sq
open Go Go.Am Go.Proofs Go.Seat
end Go.Sq


namespace Go.Sq
open Go Go.Am
theorem clash_symm {x y:CE}:clash x y=clash y x:=by
 unfold clash
 rw [Bool.eq_iff_iff]
 grind
theorem Ok.perm {l m:List CE} (h:Ok l) (hp:l.Perm m):Ok m :=
 ⟨fun x hx=>h.valid x (hp.mem_iff.2 hx),(List.Perm.pairwise_iff (fun {a b} h=>by rw [clash_symm]; exact h) hp).1 h.apart⟩
theorem lvl_set {l m:List CE} (h:∀ x,x∈l↔x∈m):∀ {n:Nat} {c:CE},lvl l n c↔lvl m n c
 | 0,c=>Iff.rfl
 | n+1,c=>⟨fun ⟨p,hp,e,k⟩=>⟨p,(h p).1 hp,e,(lvl_set h).1 k⟩,fun ⟨p,hp,e,k⟩=>⟨p,(h p).2 hp,e,(lvl_set h).2 k⟩⟩
theorem forms_perm {l m:List CE} (hp:l.Perm m):formsB l=formsB m:=by
 rw [Bool.eq_iff_iff,forms_iff,forms_iff]
 have hm:∀ x,x∈l↔x∈m:=fun x=>hp.mem_iff
 constructor
 · rintro ⟨h1,h2⟩
   exact ⟨h1.perm hp,fun x hx=>by
    obtain ⟨n,hn⟩:=h2 x ((hm x).2 hx)
    exact ⟨n,(lvl_set hm).1 hn⟩⟩
 · rintro ⟨h1,h2⟩
   exact ⟨h1.perm hp.symm,fun x hx=>by
    obtain ⟨n,hn⟩:=h2 x ((hm x).1 hx)
    exact ⟨n,(lvl_set hm).2 hn⟩⟩
theorem all_perm {l m:List CE} (h:Ok l) (hp:l.Perm m):all l=all m:=by
 unfold all
 rw [hp.length_eq]
 exact belowF_set h.ids (h.perm hp).ids (fun x=>hp.mem_iff) _ _ _ _
theorem all_is {l:List CE} (h:formsB l=true):(all l).Perm l:=by
 obtain ⟨h1,h2⟩:=forms_iff.1 h
 refine (List.perm_ext_iff_of_nodup (all_nodup h1) h1.nodup).2 fun x=>?_
 rw [mem_all h1]
 exact ⟨fun h=>h.1,fun h=>⟨h,h2 x h⟩⟩
theorem forms_or (l:List CE):formsB l=true∧ordE l=0∧ordV l=all l∨formsB l=false∧ordE l=130∧ordV l=[]:=by
 unfold ordE ordV
 cases h:formsB l
 · right; exact ⟨rfl,rfl,rfl⟩
 · left; exact ⟨rfl,rfl,rfl⟩
theorem ord_ord {l:List CE} (h:formsB l=true):formsB (all l)=true∧all (all l)=all l∧chkE (all l)=0:=by
 have hp:=all_is h
 have h1:formsB (all l)=true:=by rw [forms_perm hp]; exact h
 have h2:=all_perm (forms_iff.1 h1).1 hp
 refine ⟨h1,h2,?_⟩
 unfold chkE ordE ordV
 rw [if_pos h1,if_pos h1,if_pos ⟨rfl,h2⟩]
theorem chk_iff {l:List CE}:chkE l=0↔formsB l=true∧all l=l:=by
 unfold chkE
 rcases forms_or l with ⟨h1,h2,h3⟩ | ⟨h1,h2,h3⟩
 · rw [h2,h3]
   simp [h1]
 · rw [h2]
   simp [h1]
end Go.Sq


namespace Go.Sq
open Go Go.Am
theorem flt_flatMap {α β:Type} (p:β→Bool) (f:α→List β):∀ l:List α,(l.flatMap f).filter p=l.flatMap fun x=>(f x).filter p
 | []=>rfl
 | x::l=>by rw [List.flatMap_cons,List.filter_append,flt_flatMap p f l,List.flatMap_cons]
theorem flatMap_congr' {α β:Type} {f g:α→List β}:∀ {l:List α},(∀ x∈l,f x=g x)→l.flatMap f=l.flatMap g
 | [],_=>rfl
 | x::l,h=>by rw [List.flatMap_cons,List.flatMap_cons,h x (by simp),flatMap_congr' fun y hy=>h y (List.mem_cons_of_mem _ hy)]
structure More (l:List CE) (c:CE):Prop where
 fl:formsB l=true
 fm:formsB (l++[c])=true
theorem More.ok {l:List CE} {c:CE} (h:More l c):Ok l:=(forms_iff.1 h.fl).1
theorem More.okm {l:List CE} {c:CE} (h:More l c):Ok (l++[c]):=(forms_iff.1 h.fm).1
theorem More.ne {l:List CE} {c:CE} (h:More l c):∀ y∈l,y.id≠c.id:=fun y hy e=>by
 have:=(List.pairwise_append.1 h.okm.ids).2.2 y hy c (by simp)
 exact this e
theorem More.leaf {l:List CE} {c:CE} (h:More l c):∀ y∈l++[c],y.after≠c.id:=fun y hy e=>by
 have hc0:=h.okm.id0 (x:=c) (by simp)
 rcases List.mem_append.1 hy with hy | hy
 · obtain ⟨n,hn⟩:=(forms_iff.1 h.fl).2 y hy
   cases n with
   | zero=>exact hc0 (e.symm.trans hn)
   | succ n =>
    obtain ⟨p,hp,e',_⟩:=hn
    exact h.ne p hp (e'.trans e)
 · rw [List.mem_singleton.1 hy] at e
   obtain ⟨n,hn⟩:=(forms_iff.1 h.fm).2 c (by simp)
   cases n with
   | zero=>exact hc0 (e.symm.trans hn)
   | succ n =>
    have hn':=hn
    obtain ⟨p,hp,e',hl⟩:=hn
    have:p=c:=h.okm.one hp (by simp) (e'.trans e)
    rw [this] at hl
    have:=lvl_one h.okm hl hn'
    omega
theorem More.parent {l:List CE} {c:CE} (h:More l c):c.after=(0,0,0)∨∃ p∈l,p.id=c.after:=by
 obtain ⟨n,hn⟩:=(forms_iff.1 h.fm).2 c (by simp)
 cases n with
 | zero=>exact .inl hn
 | succ n =>
  obtain ⟨p,hp,e,_⟩:=hn
  rcases List.mem_append.1 hp with hp | hp
  · exact .inr ⟨p,hp,e⟩
  · rw [List.mem_singleton.1 hp] at e
    exact absurd e.symm (h.leaf c (by simp))
theorem More.kids {l:List CE} {c:CE} (h:More l c) (i j k:Int):Sq.kids (l++[c]) i j k=if c.after=(i,j,k) then ins c (Sq.kids l i j k) else Sq.kids l i j k:=by
 split
 · rename_i e
   refine (kids_desc h.okm.ids i j k).ext (ins_desc (kids_desc h.ok.ids i j k) fun y hy=>h.ne y ((mem_kids h.ok.ids).1 hy).1) fun x=>?_
   rw [mem_kids h.okm.ids,mem_ins,mem_kids h.ok.ids,List.mem_append,List.mem_singleton]
   constructor
   · rintro ⟨h1 | rfl,h2⟩
     · exact .inr ⟨h1,h2⟩
     · exact .inl rfl
   · rintro (rfl | ⟨h1,h2⟩)
     · exact ⟨.inr rfl,e⟩
     · exact ⟨.inl h1,h2⟩
 · rename_i e
   refine (kids_desc h.okm.ids i j k).ext (kids_desc h.ok.ids i j k) fun x=>?_
   rw [mem_kids h.okm.ids,mem_kids h.ok.ids,List.mem_append,List.mem_singleton]
   constructor
   · rintro ⟨h1 | rfl,h2⟩
     · exact ⟨h1,h2⟩
     · exact absurd h2 e
   · rintro ⟨h1,h2⟩
     exact ⟨.inl h1,h2⟩
theorem More.nokids {l:List CE} {c:CE} (h:More l c):Sq.kids (l++[c]) c.dv c.sq c.at'=[]:=by
 cases hk:Sq.kids (l++[c]) c.dv c.sq c.at' with
 | nil=>rfl
 | cons y r =>
  have hy:y∈Sq.kids (l++[c]) c.dv c.sq c.at':=by rw [hk]; simp
  obtain ⟨h1,h2⟩:=(mem_kids h.okm.ids).1 hy
  exact absurd h2 (h.leaf y h1)
def notC (c:CE) (z:CE):Bool:=decide (z.id≠c.id)
theorem More.below {l:List CE} {c:CE} (h:More l c):∀ n i j k,(belowF (l++[c]) n i j k).filter (notC c)=belowF l n i j k
 | 0,_,_,_=>rfl
 | n+1,i,j,k=>by
  rw [belowF,belowF,flt_flatMap,h.kids]
  have hc:((c::belowF (l++[c]) n c.dv c.sq c.at').filter (notC c))=[]:=by
   have:belowF (l++[c]) n c.dv c.sq c.at'=[]:=by
    cases n with
    | zero=>rfl
    | succ n=>rw [belowF,h.nokids]; rfl
   rw [this]
   simp [notC]
  have hy:∀ y∈l,((y::belowF (l++[c]) n y.dv y.sq y.at').filter (notC c))=y::belowF l n y.dv y.sq y.at':=fun y hy=>by
   rw [List.filter_cons,if_pos (by simp [notC,h.ne y hy]),h.below n]
  have hks:∀ y∈Sq.kids l i j k,y∈l:=fun y hy=>((mem_kids h.ok.ids).1 hy).1
  split
  · have e:=List.takeWhile_append_dropWhile (p:=fun y=>gtB y c) (l:=Sq.kids l i j k)
    unfold ins
    rw [List.flatMap_append,List.flatMap_cons,hc,List.nil_append,← List.flatMap_append,e]
    exact flatMap_congr' fun y hm=>hy y (hks y hm)
  · exact flatMap_congr' fun y hm=>hy y (hks y hm)
end Go.Sq


namespace Go.Sq
open Go Go.Am Go.Proofs Go.Seat
end Go.Sq


namespace Go.Sq
open Go Go.Am Go.Proofs Go.Seat
end Go.Sq


namespace Go.Sq
open Go Go.Am Go.Proofs Go.Seat
theorem cz5:Tryd.prog.cellsOf 5=1:=by kernel_rfl
end Go.Sq


namespace Go.Sq
open Go Go.Am Go.Proofs Go.Seat
end Go.Sq


namespace Go.Sq
open Go Go.Am Go.Proofs Go.Seat
end Go.Sq


namespace Go.Sq
open Go Go.Am Go.Proofs Go.Seat
end Go.Sq


namespace Go.Sq
open Go Go.Am Go.Proofs Go.Seat
theorem ins_cases (l:List CE) (c:CE):insE l c=0∧chkE l=0∧formsB (l++[c])=true∧insV l c=all (l++[c])∨insE l c≠0∧insV l c=[]:=by
 unfold insE insV
 by_cases h0:chkE l=0
 · by_cases hg:c.gn=true
   · right; simp [h0,hg]
   · rcases forms_or (l++[c]) with ⟨f1,f2,f3⟩ | ⟨f1,f2,f3⟩
     · left; simp [h0,hg,f1,f2,f3]
     · right; simp [h0,hg,f2,f3]
 · right; simp [h0]
end Go.Sq


namespace Go.Sq
open Go Go.Am
structure Alike (g:CE→CE):Prop where
 dv:∀ x,(g x).dv=x.dv
 sq:∀ x,(g x).sq=x.sq
 at':∀ x,(g x).at'=x.at'
 ad:∀ x,(g x).ad=x.ad
 as':∀ x,(g x).as'=x.as'
 aa:∀ x,(g x).aa=x.aa
 tm:∀ x,(g x).tm=x.tm
 vl:∀ x,(g x).vl=x.vl
section
variable {g:CE→CE} (h:Alike g)
 include h
theorem Alike.id (x:CE):(g x).id=x.id:=by simp only [CE.id,h.dv,h.sq,h.at']
theorem Alike.after (x:CE):(g x).after=x.after:=by simp only [CE.after,h.ad,h.as',h.aa]
theorem Alike.valid (x:CE):validB (g x)=validB x:=by simp only [validB,h.dv,h.sq,h.at',h.ad,h.as',h.aa,h.tm,h.vl]
theorem Alike.gt (x y:CE):gtB (g x) (g y)=gtB x y:=by simp only [gtB,h.dv,h.sq,h.at',h.tm]
theorem Alike.clash (x y:CE):Sq.clash (g x) (g y)=Sq.clash x y:=by simp only [Sq.clash,h.dv,h.sq,h.at',h.tm]
theorem Alike.ok {l:List CE}:Ok (l.map g)↔Ok l:=by
 constructor
 · intro k
   refine ⟨fun x hx=>?_,?_⟩
   · rw [← h.valid]; exact k.valid _ (List.mem_map.2 ⟨x,hx,rfl⟩)
   · have:=List.pairwise_map.1 k.apart
     exact this.imp fun {a b} q=>by rw [h.clash] at q; exact q
 · intro k
   refine ⟨fun x hx=>?_,?_⟩
   · obtain ⟨y,hy,rfl⟩:=List.mem_map.1 hx
     rw [h.valid]; exact k.valid y hy
   · exact List.pairwise_map.2 (k.apart.imp fun {a b} q=>by rw [h.clash]; exact q)
theorem Alike.lvl {l:List CE}:∀ {n:Nat} {c:CE},Sq.lvl (l.map g) n (g c)↔Sq.lvl l n c
 | 0,c=>by show (g c).after=_↔_; rw [h.after]; rfl
 | n+1,c=>by
  constructor
  · rintro ⟨p,hp,e,k⟩
    obtain ⟨q,hq,rfl⟩:=List.mem_map.1 hp
    rw [h.id,h.after] at e
    exact ⟨q,hq,e,Alike.lvl.1 k⟩
  · rintro ⟨p,hp,e,k⟩
    exact ⟨g p,List.mem_map.2 ⟨p,hp,rfl⟩,by rw [h.id,h.after]; exact e,Alike.lvl.2 k⟩
theorem Alike.forms (l:List CE):formsB (l.map g)=formsB l:=by
 rw [Bool.eq_iff_iff,forms_iff,forms_iff,h.ok]
 constructor
 · rintro ⟨k1,k2⟩
   refine ⟨k1,fun x hx=>?_⟩
   obtain ⟨m,hm⟩:=k2 (g x) (List.mem_map.2 ⟨x,hx,rfl⟩)
   exact ⟨m,h.lvl.1 hm⟩
 · rintro ⟨k1,k2⟩
   refine ⟨k1,fun x hx=>?_⟩
   obtain ⟨y,hy,rfl⟩:=List.mem_map.1 hx
   obtain ⟨m,hm⟩:=k2 y hy
   exact ⟨m,h.lvl.2 hm⟩
theorem Alike.kids {l:List CE} (hl:Ids l) (i j k:Int):Sq.kids (l.map g) i j k=(Sq.kids l i j k).map g:=by
 have hm:Ids (l.map g):=List.pairwise_map.2 (hl.imp fun {a b} q=>by rw [h.id,h.id]; exact q)
 refine (kids_desc hm i j k).ext (List.pairwise_map.2 ((kids_desc hl i j k).imp fun {a b} q=>by rw [h.gt]; exact q)) fun x=>?_
 rw [mem_kids hm,List.mem_map,List.mem_map]
 constructor
 · rintro ⟨⟨y,hy,rfl⟩,e⟩
   rw [h.after] at e
   exact ⟨y,(mem_kids hl).2 ⟨hy,e⟩,rfl⟩
 · rintro ⟨y,hy,rfl⟩
   obtain ⟨k1,k2⟩:=(mem_kids hl).1 hy
   exact ⟨⟨y,k1,rfl⟩,by rw [h.after]; exact k2⟩
theorem Alike.below {l:List CE} (hl:Ids l):∀ n i j k,belowF (l.map g) n i j k=(belowF l n i j k).map g
 | 0,_,_,_=>rfl
 | n+1,i,j,k=>by
  rw [belowF,belowF,h.kids hl,List.map_flatMap,List.flatMap_map]
  refine flatMap_congr' fun y _=>?_
  rw [h.dv,h.sq,h.at',Alike.below hl n,List.map_cons]
theorem Alike.all {l:List CE} (hl:Ids l):Sq.all (l.map g)=(Sq.all l).map g:=by
 unfold Sq.all
 rw [h.below hl,List.length_map]
theorem Alike.chk {l:List CE} (hc:chkE l=0):chkE (l.map g)=0:=by
 obtain ⟨h1,h2⟩:=chk_iff.1 hc
 refine chk_iff.2 ⟨by rw [h.forms]; exact h1,?_⟩
 rw [h.all (forms_iff.1 h1).1.ids,h2]
end
def ers (i:ID) (x:CE):CE:=if x.id=i then { x with gn:=true } else x
theorem ers_alike (i:ID):Alike (ers i):=by
 constructor<;>(intro x; unfold ers; split<;>rfl)
theorem ers_yes {i:ID} {x:CE} (h:x.id=i):ers i x={ x with gn:=true }:=if_pos h
theorem ers_no {i:ID} {x:CE} (h:x.id≠i):ers i x=x:=if_neg h
theorem fX_some {i j k:Int} {l:List CE} {m:Nat} (h:fX (pid i j k) l=some m):∃ x,l[m]? = some x∧x.id=(i,j,k):=by
 obtain ⟨x,h1,h2⟩:=fX_get h
 exact ⟨x,h1,pid_iff.1 h2⟩
theorem goneAt_map {i j k:Int} {l:List CE} {m:Nat} (hl:Ids l) (h:fX (pid i j k) l=some m):goneAt l m=l.map (ers (i,j,k)):=by
 obtain ⟨x,h1,h2⟩:=fX_some h
 unfold goneAt
 apply List.ext_getElem?
 intro n
 rw [List.getElem?_modify,List.getElem?_map]
 by_cases e:m=n
 · subst e
   rw [h1]
   simp [ers,h2]
 · cases hn:l[n]? with
   | none=>simp [e]
   | some y =>
    have hy:y.id≠(i,j,k):=fun hy=>by
     obtain ⟨l1,q1⟩:=List.getElem?_eq_some_iff.1 h1
     obtain ⟨l2,q2⟩:=List.getElem?_eq_some_iff.1 hn
     rcases Nat.lt_trichotomy m n with h' | h' | h'
     · exact List.pairwise_iff_getElem.1 hl m n l1 l2 h' (by rw [q1,q2,h2,hy])
     · exact e h'
     · exact List.pairwise_iff_getElem.1 hl n m l2 l1 h' (by rw [q1,q2,h2,hy])
    simp [e,ers,hy]
theorem fX_map {g:CE→CE} (h:Alike g) {i j k:Int} (l:List CE):fX (pid i j k) (l.map g)=fX (pid i j k) l:=by
 have key:∀ (n m:Nat),fI (pid i j k) (l.map g) n m=fI (pid i j k) l n m:=by
  intro n
  induction n with
  | zero=>intro m; rfl
  | succ n ih =>
   intro m
   rw [fI,fI,List.getElem?_map]
   cases l[m]? with
   | none=>rfl
   | some x =>
    have e:pid i j k (g x)=pid i j k x:=by
     rw [Bool.eq_iff_iff,pid_iff,pid_iff,h.id]
    show (if pid i j k (g x)=true then _ else _)=(if pid i j k x=true then _ else _)
    rw [e,ih]
 unfold fX
 rw [List.length_map,key]
theorem fX_mem {i j k:Int} {l:List CE} {x:CE} (hx:x∈l) (e:x.id=(i,j,k)):∃ m,fX (pid i j k) l=some m:=by
 cases h:fX (pid i j k) l with
 | some m=>exact ⟨m,rfl⟩
 | none =>
  have:=fX_none h x hx
  rw [pid_iff.2 e] at this
  cases this
end Go.Sq


namespace Go.Tx
open Go Go.Am Go.Proofs Go.Seat
open Go.Sq (CE cel ces ida idv pid fX fiO OkRs OkR chkE insE insV goneAt)
theorem okN_iff {l:List CE} {v:List MK}:∀ {n k:Nat},k+n=v.length→(okN l v n k=true↔∀ j,k≤j→j<v.length→okAt l v j=true)
 | 0,k,h=>by
  simp only [okN,true_iff]
  intro j h1 h2; omega
 | n+1,k,h=>by
  simp only [okN,Bool.and_eq_true,okN_iff (l:=l) (v:=v) (n:=n) (k:=k+1) (by omega)]
  constructor
  · rintro ⟨h1,h2⟩ j hj1 hj2
    by_cases e:j=k
    · subst e; exact h1
    · exact h2 j (by omega) hj2
  · intro h'
    exact ⟨h' k (by omega) (by omega),fun j h1 h2=>h' j (by omega) h2⟩
structure OkV (l:List CE) (v:List MK):Prop where
 isM:∀ m∈v,isMk l m=true
 sorted:v.Pairwise fun a b=>lessM a b=true
 dots:v.Pairwise fun a b=>a.dot≠b.dot
theorem okB_iff {l:List CE} {v:List MK}:okB l v=true↔OkV l v:=by
 unfold okB
 rw [okN_iff (by omega)]
 constructor
 · intro h
   have at_:∀ j (hj:j<v.length),isMk l v[j]=true∧(0<j→lessM (v[j - 1]'(by omega)) v[j]=true)∧∀ i (hi:i<j),(v[i]'(by omega)).dot≠v[j].dot:=fun j hj=>by
    have:=h j (by omega) hj
    unfold okAt at this
    rw [List.getElem?_eq_getElem hj] at this
    simp only [Bool.and_eq_true,Bool.or_eq_true,beq_iff_eq,Bool.not_eq_true'] at this
    obtain ⟨h1,h2,h3⟩:=this
    refine ⟨h1,fun h0=>?_,fun i hi e=>?_⟩
    · rcases h2 with h2 | h2
      · omega
      · rw [List.getElem?_eq_getElem (show j - 1<v.length by omega)] at h2
        exact h2
    · have:=List.any_eq_false.1 h3 (v[i]'(by omega)) (by
       have:(v.take j)[i]'(by rw [List.length_take]; omega)=v[i]'(by omega):=List.getElem_take
       rw [← this]; exact List.getElem_mem _)
      simp [e] at this
   refine ⟨fun m hm=>?_,List.pairwise_iff_getElem.2 fun i j hi hj hij=>?_,List.pairwise_iff_getElem.2 fun i j hi hj hij=>(at_ j hj).2.2 i hij⟩
   · obtain ⟨j,hj,rfl⟩:=List.getElem_of_mem hm
     exact (at_ j hj).1
   · have key:∀ d i (hi:i+d+1<v.length),lessM (v[i]'(by omega)) (v[i+d+1])=true:=by
      intro d
      induction d with
      | zero =>
       intro i hi
       have:=(at_ (i+1) (by omega)).2.1 (by omega)
       simpa using this
      | succ d ih =>
       intro i hi
       have h1:=ih i (by omega)
       have h2:=(at_ (i+(d+1)+1) (by omega)).2.1 (by omega)
       exact less_trans h1 (by simpa [Nat.add_assoc] using h2)
     have:=key (j - i - 1) i (by omega)
     simpa [show i+(j - i - 1)+1=j by omega] using this
 · intro h j _ hj
   unfold okAt
   rw [List.getElem?_eq_getElem hj]
   simp only [Bool.and_eq_true,Bool.or_eq_true,beq_iff_eq,Bool.not_eq_true']
   refine ⟨h.isM _ (List.getElem_mem hj),?_,?_⟩
   · rcases Nat.eq_zero_or_pos j with h0 | h0
     · exact .inl h0
     · right
       rw [List.getElem?_eq_getElem (show j - 1<v.length by omega)]
       exact List.pairwise_iff_getElem.1 h.sorted (j - 1) j (by omega) hj (by omega)
   · rw [List.any_eq_false]
     intro m hm
     obtain ⟨i,hi,rfl⟩:=List.getElem_of_mem hm
     rw [List.length_take] at hi
     rw [List.getElem_take]
     have:=List.pairwise_iff_getElem.1 h.dots i j (by omega) hj (by omega)
     simpa using this
structure Val (t:TE):Prop where
 cells:chkE t.cells=0
 one:∀ c∈t.cells,c.vl.size=1
 marks:OkV t.cells t.marks
theorem chkT_iff {t:TE}:chkT t=0↔Val t:=by
 unfold chkT
 by_cases h0:chkE t.cells=0
 · rw [if_neg (by simpa using h0)]
   cases ha:t.cells.all oneB with
   | false =>
    rw [if_neg (by decide)]
    refine ⟨fun h=>(by cases h),fun h=>?_⟩
    have:t.cells.all oneB=true:=List.all_eq_true.2 fun c hc=>by unfold oneB; simpa using h.one c hc
    rw [ha] at this; cases this
   | true =>
    rw [if_pos rfl]
    have h1:∀ c∈t.cells,c.vl.size=1:=fun c hc=>by
     have:=List.all_eq_true.1 ha c hc
     unfold oneB at this; simpa using this
    cases hb:okB t.cells t.marks with
    | true=>rw [if_pos rfl]; exact ⟨fun _=>⟨h0,h1,okB_iff.1 hb⟩,fun _=>rfl⟩
    | false =>
     refine ⟨fun h=>by simp at h,fun h=>?_⟩
     rw [okB_iff.2 h.marks] at hb; cases hb
 · rw [if_pos h0]
   exact ⟨fun h=>absurd h h0,fun h=>absurd h.cells h0⟩
theorem insV_ok {l:List CE} {c:CE} (h:OkRs l) (hc:OkR c):OkRs (insV l c):=by
 unfold insV
 split
 · exact fun x hx=>by cases hx
 · split
   · exact fun x hx=>by cases hx
   · exact (h.snoc hc).ord
theorem tyC_ok {dv sq tm:Int} {k:Nat} {i:Sq.ID} {s:ByteArray} (h1:InR dv) (h2:InR sq) (hk:k≤64) (h3:InR i.1) (h4:InR i.2.1) (h5:InR i.2.2):OkR (tyC dv sq tm k i s) :=
 ⟨⟨h1,h2,by show Sq.InR (k:Int); unfold Sq.InR; omega⟩,h3,h4,h5⟩
theorem ty_loop (t:TE) (dv sq tm:Int) (s:ByteArray) (h1:InR dv) (h2:InR sq) (hs:s.size≤64):∀ n k (a b c:Int) (l:List CE),s.size - k=n→k≤s.size→l.length+n≤990000→OkRs l→InR a→InR b→InR c →
 ((tyN dv sq tm s n k (a,b,c) l).2=0→RunL P G none 0 (loopAt P 28 0) (tySt t dv sq tm a b c s l k) (.exit 0) (tyO t (tyN dv sq tm s n k (a,b,c) l).1)) ∧
 ((tyN dv sq tm s n k (a,b,c) l).2≠0→RunL P G none 0 (loopAt P 28 0) (tySt t dv sq tm a b c s l k) .ret (tyX (tyN dv sq tm s n k (a,b,c) l).2)):=by
 intro n
 induction n with
 | zero=>intro k a b c l hn hk hl hO ha hb hc; exact ⟨fun _=>ty_e t dv sq tm a b c s l k (by omega) trivial,fun h=>absurd rfl h⟩
 | succ n ih =>
  intro k a b c l hn hk hl hO ha hb hc
  have hC:OkR (tyC dv sq tm k (a,b,c) s):=tyC_ok h1 h2 (by omega) ha hb hc
  have hi:=lift (Sq.ins_c l (tyC dv sq tm k (a,b,c) s) (by omega) hO hC)
  have hlen:=Sq.insV_len l (tyC dv sq tm k (a,b,c) s)
  rw [tyN]
  by_cases he:insE l (tyC dv sq tm k (a,b,c) s)=0
  · rw [if_neg (by simpa using he)]
    rw [he] at hi
    obtain ⟨n1,n2⟩:=ih (k+1) dv sq k (insV l (tyC dv sq tm k (a,b,c) s)) (by omega) (by omega) (by omega) (insV_ok hO hC) h1 h2 (by unfold InR; omega)
    exact ⟨fun h=>ty_n t dv sq tm a b c s l _ k (by omega) hs hi _ _ (n1 h),fun h=>ty_n t dv sq tm a b c s l _ k (by omega) hs hi _ _ (n2 h)⟩
  · rw [if_pos he]
    have hz:insV l (tyC dv sq tm k (a,b,c) s)=[]:=by
     rcases Sq.ins_cases l (tyC dv sq tm k (a,b,c) s) with h | h
     · exact absurd h.1 he
     · exact h.2
    rw [hz] at hi
    exact ⟨fun h=>absurd h he,fun _=>ty_x t dv sq tm a b c s l k _ he (by omega) hs hi trivial⟩
theorem type_c (t:TE) (dv sq tm a b c:Int) (s:ByteArray) (hl:LenT t) (hO:OkT t) (h1:InR dv) (h2:InR sq) (ha:InR a) (hb:InR b) (hc:InR c) :
 CallC P G 28 [txt t,dta dv sq,int tm,ida a b c,str s] [] (.ret (.tup [txt (typR t dv sq tm (a,b,c) s).1,int (typR t dv sq tm (a,b,c) s).2])) []:=by
 have hk:=check_c t hl hO
 have hlc:=hl.cells
 unfold typR
 by_cases h0:chkT t=0
 · rw [if_neg (by simpa using h0)]
   rw [h0] at hk
   by_cases hs:s.size<1∨s.size > 64
   · rw [if_pos hs]; exact type_b t dv sq tm a b c s hs hk ⟨fun _=>trivial,fun _=>trivial⟩
   · rw [if_neg hs]
     obtain ⟨n1,n2⟩:=ty_loop t dv sq tm s h1 h2 (by omega) s.size 0 a b c t.cells (by omega) (by omega) (by omega) hO.cells ha hb hc
     by_cases he:(tyN dv sq tm s s.size 0 (a,b,c) t.cells).2=0
     · rw [if_pos he]; exact type_y t dv sq tm a b c s _ (by omega) (by omega) hk (n1 he) trivial
     · rw [if_neg he]; exact type_x t dv sq tm a b c s _ (by omega) (by omega) hk (n2 he) trivial
 · rw [if_pos h0]; exact type_a t dv sq tm a b c s _ h0 hk trivial
theorem goneAt_len (l:List CE) (j:Nat):(goneAt l j).length=l.length:=by unfold Sq.goneAt; simp
theorem cutN_len {a b c:Int}:∀ {n k:Nat} {l r:List CE},cutN a b c n k l=some r→r.length=l.length
 | 0,_,_,_,h=>by simp [cutN] at h; rw [h]
 | n+1,k,l,r,h=>by
  rw [cutN] at h
  split at h
  · rw [cutN_len h,goneAt_len]
  · cases h
theorem cu_loop (t:TE) (a b c nn:Int) (hn:nn≤64) (m:Nat) (hm:m≤900000):∀ d k (l:List CE),nn.toNat - k=d→k≤nn.toNat→l.length=m →
 (∀ r,cutN a b c d k l=some r→RunL P G none 0 (loopAt P 31 0) (cuS t a b c nn m l k) (.exit 0) (cuO t a b c m r))∧(cutN a b c d k l=none→RunL P G none 0 (loopAt P 31 0) (cuS t a b c nn m l k) .ret cuX):=by
 intro d
 induction d with
 | zero=>intro k l hd hk hl; exact ⟨fun r h=>by cases h; exact cu_e t a b c nn m l k (by omega) trivial,fun h=>by cases h⟩
 | succ d ih =>
  intro k l hd hk hl
  have hf:=find_c l a b (wr c k) (by omega)
  rw [cutN]
  cases hx:fX (pid a b (wr c k)) l with
  | none =>
   rw [hx] at hf
   exact ⟨fun r h=>(by cases h),fun _=>cu_x t a b c nn m l k (by omega) hn hl _ hf trivial⟩
  | some j =>
   rw [hx] at hf
   obtain ⟨x,hj,_⟩:=Sq.fX_get hx
   have hlt:=(List.getElem?_eq_some_iff.1 hj).1
   obtain ⟨n1,n2⟩:=ih (k+1) (goneAt l j) (by omega) (by omega) (by rw [goneAt_len]; exact hl)
   rw [Sq.goneAt_set hj] at n1 n2
   show (∀ r,cutN a b c d (k+1) (goneAt l j)=some r→_)∧(cutN a b c d (k+1) (goneAt l j)=none→_)
   rw [Sq.goneAt_set hj]
   exact ⟨fun r h=>cu_n t a b c nn m l k j x (by omega) hn hl hj (by omega) (by omega) hf _ _ (n1 r h),fun h=>cu_n t a b c nn m l k j x (by omega) hn hl hj (by omega) (by omega) hf _ _ (n2 h)⟩
theorem cut_c (t:TE) (a b c n:Int) (hl:LenT t) (hO:OkT t):CallC P G 31 [txt t,ida a b c,int n] [] (.ret (.tup [txt (cutR t (a,b,c) n).1,int (cutR t (a,b,c) n).2])) []:=by
 have hk:=check_c t hl hO
 have hlc:=hl.cells
 unfold cutR
 by_cases h0:chkT t=0
 · rw [if_neg (by simpa using h0)]
   rw [h0] at hk
   by_cases hs:n<1∨n > 64
   · rw [if_pos hs]; exact cut_b t a b c n hs hk ⟨fun _=>trivial,fun _=>trivial⟩
   · rw [if_neg hs]
     by_cases hne:t.cells=[]
     · have hf:=find_c [] a b (wr c 0) (by simp)
       have e:cutN a b c n.toNat 0 t.cells=none:=by
        rw [hne,show n.toNat=(n.toNat - 1)+1 by omega,cutN]; rfl
       show CallC P G _ _ _ (.ret (.tup [txt (match cutN a b c n.toNat 0 t.cells with | some l=>((⟨l,t.marks⟩,0):TE × Int) | none=>(zT,160)).1,int (match cutN a b c n.toNat 0 t.cells with | some l=>((⟨l,t.marks⟩,0):TE × Int) | none=>(zT,160)).2])) []
       rw [e]
       exact cut_z t a b c n (by omega) (by omega) hk (by rw [hne]; exact lift (Sq.clone_c [] (by simp))) (cu_z t a b c n (by omega) (by omega) _ hf trivial) trivial
     · obtain ⟨n1,n2⟩:=cu_loop t a b c n (by omega) t.cells.length (by omega) n.toNat 0 t.cells (by omega) (by omega) rfl
       have hcl:=lift (Sq.clo_c t.cells hne (by omega))
       show CallC P G _ _ _ (.ret (.tup [txt (match cutN a b c n.toNat 0 t.cells with | some l=>((⟨l,t.marks⟩,0):TE × Int) | none=>(zT,160)).1,int (match cutN a b c n.toNat 0 t.cells with | some l=>((⟨l,t.marks⟩,0):TE × Int) | none=>(zT,160)).2])) []
       cases hr:cutN a b c n.toNat 0 t.cells with
       | none=>exact cut_x t a b c n (by omega) (by omega) hk hcl (n2 hr) ⟨Sq.encs_ids _,trivial⟩
       | some r=>exact cut_y t a b c n r (by omega) (by omega) (cutN_len hr) hk hcl (n1 r hr) trivial
 · rw [if_pos h0]; exact cut_a t a b c n _ h0 hk trivial
def addR (t:TE) (m:MK):TE × Int :=
 if chkT t≠0 then (zT,chkT t) else if isMk t.cells m=false then (zT,160) else if (t.marks.any fun a=>decide (a.dot=m.dot))=true then (zT,160) else
  (⟨t.cells,t.marks.take (plcM m t.marks)++[m]++t.marks.drop (plcM m t.marks)⟩,0)
theorem add_c (t:TE) (m:MK) (hl:LenT t) (hO:OkT t):CallC P G 32 [txt t,mke m] [] (.ret (.tup [txt (addR t m).1,int (addR t m).2])) []:=by
 have hk:=check_c t hl hO
 have hlc:=hl.cells
 have hlm:=hl.marks
 have hi:=ismk_c t.cells m (by omega)
 have hF:=met_c t.marks m (by omega)
 unfold addR
 by_cases h0:chkT t=0
 · rw [if_neg (by simpa using h0)]
   rw [h0] at hk
   cases hm:isMk t.cells m with
   | false=>rw [hm] at hi; rw [if_pos rfl]; exact add_b t m hk hi trivial
   | true =>
    rw [hm] at hi
    rw [if_neg (by decide)]
    cases hd:t.marks.any fun a=>decide (a.dot=m.dot) with
    | true=>rw [hd] at hF; rw [if_pos rfl]; exact add_m t m hk hi hF trivial
    | false =>
     rw [hd] at hF
     rw [if_neg (by decide)]
     have hV:=(chkT_iff.1 h0).marks
     obtain ⟨f,hB⟩:=bin_c t.marks m (by omega) hV.sorted
     by_cases hne:t.marks=[]
     · have hp:plcM m t.marks=0:=by rw [hne]; rfl
       rw [hp] at hB
       rw [hp,hne]
       have hI:=ins_z [] m 0 rfl (by simp) trivial
       exact add_z t m f _ hk hi hF hB (by rw [hne]; exact clone_z) hI trivial
     · exact add_w t m _ f _ hk hi hF hB (clone_c t.marks (by omega) hne) (ins_c t.marks m _ (plcM_le _ _) (by omega)) trivial
 · rw [if_pos h0]; exact add_a t m _ h0 hk trivial
end Go.Tx


namespace Go.Tx
open Go Go.Am Go.Proofs Go.Seat
open Go.Sq (CE cel ces ida idv pid fX fiO OkRs chkE)
abbrev ils (l:List Int):AV:=.sl 1 false (Vec.ints l)
theorem drop_eq_iff {α:Type} {a b:List α} {k:Nat} (ha:k<a.length) (hb:k<b.length):(a.drop k=b.drop k↔a[k]=b[k]∧a.drop (k+1)=b.drop (k+1)):=by
 rw [List.drop_eq_getElem_cons ha,List.drop_eq_getElem_cons hb,List.cons.injEq]
def slS (a b:List Int) (k:Nat):St:={ env:=slots 26 [(0,ils a),(1,ils b),(4,bool false),(5,int k)],H:=[] }
theorem sl_w (a b:List Int) (k:Nat) (hl:a.length=b.length) (hv:b.length≤1000000000) (ex:AEx) (o:Bool) (h:((((↑k:Int)<(↑(List.length a):Int))→(∃ x2:Int,(a[k]? = some x2)∧(∃ x4:Int,(b[k]? = some x4)∧(((x2=x4)→RunL P G none 0 (loopAt P 21 0) (St.mk (slots 26 [(0,AV.sl 1 false (Vec.ints a)),(1,AV.sl 1 false (Vec.ints b)),(4,Am.bool false),(5,int (↑(k+1):Int))]) [] []) ex (St.mk (slots 26 [(4,Am.bool o)]) [] []))∧((¬x2=x4)→(AEx.ret=ex)∧((false)=(o)))))))∧((¬(↑k:Int)<(↑(List.length a):Int))→(AEx.exit 0=ex)∧((false)=(o))))):RunL P G none 0 (loopAt P 21 0) (slS a b k) ex (St.mk (slots 26 [(4,Am.bool o)]) [] []):=by
 have hz0:Am.Sub (int (↑(List.length (Vec.ints a)):Int)) (int (↑(List.length a):Int)):=(Sub.of_eq (by simp only [Go.Vec.ints_length]))
 by_cases c1:((↑k:Int)<(↑(List.length a):Int))
 · have h:=h.1 c1
   obtain ⟨x2,o3,h⟩:=h
   have hz1:(0:Int)≤(↑k:Int)∧(Vec.ints a)[Int.toNat (↑k:Int)]? = some (Vec.enc1 x2):=(el_nat o3)
   obtain ⟨x4,o5,h⟩:=h
   have hz2:(0:Int)≤(↑k:Int)∧(Vec.ints b)[Int.toNat (↑k:Int)]? = some (Vec.enc1 x4):=(el_nat o5)
   by_cases c6:(x2=x4)
   · have h:=h.1 c6
     exact loop_next [kv 13 hz0,kt (decide_eq_true c1),ko (Orc.elem (Vec.enc1 x2)),ko (Orc.elem (Vec.enc1 x4)),kp hz1,kp hz2,kf (show (x2 != x4)=false from (congrArg Bool.not (beq_iff_eq.2 c6))),kv 16 (show Am.Sub (int (IntKind.wrap IntKind.i64 ((↑k:Int)+1))) (int (↑(k+1):Int)) from (Sub.of_wrap (by omega) (by omega) (by omega)))] (others 26 [0,1,4,5]) 0 h (by kernel_rfl)
   · have h:=h.2 c6
     obtain ⟨eX,e1⟩:=h
     exact RunL.to ((show RunL P G none 0 (loopAt P 21 0) (slS a b k) AEx.ret (St.mk (slots 26 [(4,Am.bool false)]) [] []) from loop_exit [kv 13 hz0,kt (decide_eq_true c1),ko (Orc.elem (Vec.enc1 x2)),ko (Orc.elem (Vec.enc1 x4)),kp hz1,kp hz2,kt (show (x2 != x4)=true from (congrArg Bool.not (beq_eq_false_iff_ne.2 c6)))] (others 26 [4]) 0 (by kernel_rfl))) eX (SubS.slots ⟨rfl,(Sub.bool_eq e1),trivial⟩)
 · have h:=h.2 c1
   obtain ⟨eX,e1⟩:=h
   exact RunL.to ((show RunL P G none 0 (loopAt P 21 0) (slS a b k) (AEx.exit 0) (St.mk (slots 26 [(4,Am.bool false)]) [] []) from loop_exit [kv 13 hz0,kf (decide_eq_false c1)] (others 26 [4]) 0 (by kernel_rfl))) eX (SubS.slots ⟨rfl,(Sub.bool_eq e1),trivial⟩)
theorem sl_loop (a b:List Int) (hl:a.length=b.length) (hv:b.length≤1000000000):∀ n k,a.length - k=n→k≤a.length→RunL P G none 0 (loopAt P 21 0) (slS a b k) (if a.drop k=b.drop k then .exit 0 else .ret) { env:=slots 26 [(4,bool false)],H:=[] }:=by
 intro n
 induction n with
 | zero =>
  intro k hn hk
  have e:a.drop k=b.drop k:=by rw [List.drop_of_length_le (by omega),List.drop_of_length_le (by omega)]
  exact sl_w a b k hl hv _ _ ⟨fun h=>absurd h (by omega),fun _=>⟨by rw [if_pos e],rfl⟩⟩
 | succ n ih =>
  intro k hn hk
  have ha:k<a.length:=by omega
  have hb:k<b.length:=by omega
  have e:=drop_eq_iff ha hb
  refine sl_w a b k hl hv _ _ ⟨fun h=>⟨a[k],List.getElem?_eq_getElem ha,b[k],List.getElem?_eq_getElem hb,⟨fun hq=>?_,fun hq=>?_⟩⟩,fun h=>absurd ha (by omega)⟩
  · have h2:=ih (k+1) (by omega) (by omega)
    have hab:a[k]=b[k]:=by first | exact hq | simpa using hq
    rw [show (if a.drop k=b.drop k then AEx.exit 0 else .ret)=if a.drop (k+1)=b.drop (k+1) then AEx.exit 0 else .ret by simp only [e,hab,true_and]]
    exact h2
  · have hab:¬ a[k]=b[k]:=by first | exact hq | simpa using hq
    rw [if_neg (fun h=>hab (e.1 h).1)]
    exact ⟨rfl,rfl⟩
theorem sl_run (a b:List Int) (hl:a.length=b.length) (hv:b.length≤1000000000):RunL P G none 0 (loopAt P 21 0) (slS a b 0) (if a=b then .exit 0 else .ret) { env:=slots 26 [(4,bool false)],H:=[] }:=sl_loop a b hl hv _ 0 rfl (by omega)
theorem slist_w (a b:List Int) (ha:a.length≤1000000000) (hv:b.length≤1000000000) (o:Bool) (h:((((↑(List.length a):Int)=(↑(List.length b):Int))→(((a=b)→(true)=(o))∧((¬a=b)→(false)=(o))))∧((¬(↑(List.length a):Int)=(↑(List.length b):Int))→(false)=(o)))):CallC P G 21 [ils a,ils b] [] (AOut.ret (Am.bool o)) []:=by
 have hz0:Am.Sub (int (↑(List.length (Vec.ints a)):Int)) (int (↑(List.length a):Int)):=(Sub.of_eq (by simp only [Go.Vec.ints_length]))
 have hz1:Am.Sub (int (↑(List.length (Vec.ints b)):Int)) (int (↑(List.length b):Int)):=(Sub.of_eq (by simp only [Go.Vec.ints_length]))
 by_cases c1:((↑(List.length a):Int)=(↑(List.length b):Int))
 · have h:=h.1 c1
   have hz2:((↑(List.length a):Int) != (↑(List.length b):Int))=false:=(congrArg Bool.not (beq_iff_eq.2 c1))
   by_cases c2:(a=b)
   · have h:=h.1 c2
     have e1:=h
     exact callC_out (Sub.bool_eq e1) [kv 7 hz0,kv 9 hz1,kf hz2,kl [2,3,6,7,8,9,10,11,12,13,14,15,16,17,18,19,20,21,22,23,24,25] 0 (show RunL P G none 0 (loopAt P 21 0) (St.mk (slots 26 [(0,AV.sl 1 false (Vec.ints a)),(1,AV.sl 1 false (Vec.ints b)),(4,Am.bool false),(5,int 0)]) [] []) (AEx.exit 0) (St.mk (slots 26 [(4,Am.bool false)]) [] []) from (by have h0:=(@Go.Tx.sl_run (a) (b) (by omega) (by omega)); simp only [if_pos c2] at h0; exact h0))] (by kernel_rfl)
   · have h:=h.2 c2
     have e1:=h
     exact callC_out (Sub.bool_eq e1) [kv 7 hz0,kv 9 hz1,kf hz2,kl [2,3,6,7,8,9,10,11,12,13,14,15,16,17,18,19,20,21,22,23,24,25] 0 (show RunL P G none 0 (loopAt P 21 0) (St.mk (slots 26 [(0,AV.sl 1 false (Vec.ints a)),(1,AV.sl 1 false (Vec.ints b)),(4,Am.bool false),(5,int 0)]) [] []) AEx.ret (St.mk (slots 26 [(4,Am.bool false)]) [] []) from (by have h0:=(@Go.Tx.sl_run (a) (b) (by omega) (by omega)); simp only [if_neg c2] at h0; exact h0))] (by kernel_rfl)
 · have h:=h.2 c1
   have e1:=h
   exact callC_out (Sub.bool_eq e1) [kv 7 hz0,kv 9 hz1,kt (show ((↑(List.length a):Int) != (↑(List.length b):Int))=true from (congrArg Bool.not (beq_eq_false_iff_ne.2 c1)))] (by kernel_rfl)
theorem slist_c (a b:List Int) (ha:a.length≤1000000000) (hv:b.length≤1000000000):CallC P G 21 [ils a,ils b] [] (.ret (bool (decide (a=b)))) []:=slist_w a b ha hv _ (by
 by_cases h:a=b
 · subst h; simp
 · simp [h])
def scS (a b:List CE) (k:Nat):St:={ env:=slots 26 [(0,ces a),(1,ces b),(4,bool false),(5,int k)],H:=[] }
theorem sc_w (a b:List CE) (k:Nat) (hl:a.length=b.length) (hv:b.length≤1000000000) (ex:AEx) (o:Bool) (h:((((↑k:Int)<(↑(List.length a):Int))→(∃ x2:CE,(a[k]? = some x2)∧(∃ x4:CE,(b[k]? = some x4)∧((((CE.dv x2 == CE.dv x4 && (CE.sq x2 == CE.sq x4 && (CE.at' x2 == CE.at' x4 && (CE.ad x2 == CE.ad x4 && (CE.as' x2 == CE.as' x4 && (CE.aa x2 == CE.aa x4 && (CE.tm x2 == CE.tm x4 && (CE.vl x2 == CE.vl x4 && CE.gn x2 == CE.gn x4))))))))=true)→RunL P G none 0 (loopAt P 30 0) (St.mk (slots 26 [(0,AV.sl 9 false (Sq.encs a)),(1,AV.sl 9 false (Sq.encs b)),(4,Am.bool false),(5,int (↑(k+1):Int))]) [] []) ex (St.mk (slots 26 [(4,Am.bool o)]) [] []))∧(((CE.dv x2 == CE.dv x4 && (CE.sq x2 == CE.sq x4 && (CE.at' x2 == CE.at' x4 && (CE.ad x2 == CE.ad x4 && (CE.as' x2 == CE.as' x4 && (CE.aa x2 == CE.aa x4 && (CE.tm x2 == CE.tm x4 && (CE.vl x2 == CE.vl x4 && CE.gn x2 == CE.gn x4))))))))=false)→(AEx.ret=ex)∧((false)=(o)))))))∧((¬(↑k:Int)<(↑(List.length a):Int))→(AEx.exit 0=ex)∧((false)=(o))))):RunL P G none 0 (loopAt P 30 0) (scS a b k) ex (St.mk (slots 26 [(4,Am.bool o)]) [] []):=by
 have hz0:Am.Sub (int (↑(List.length (Sq.encs a)):Int)) (int (↑(List.length a):Int)):=(Sub.of_eq (by simp only [Go.Sq.encs_length]))
 by_cases c1:((↑k:Int)<(↑(List.length a):Int))
 · have h:=h.1 c1
   obtain ⟨x2,o3,h⟩:=h
   have hz1:(0:Int)≤(↑k:Int)∧(Sq.encs a)[Int.toNat (↑k:Int)]? = some (Sq.enc x2):=(el_nat o3)
   obtain ⟨x4,o5,h⟩:=h
   have hz2:(0:Int)≤(↑k:Int)∧(Sq.encs b)[Int.toNat (↑k:Int)]? = some (Sq.enc x4):=(el_nat o5)
   rcases Bool.eq_false_or_eq_true ((CE.dv x2 == CE.dv x4 && (CE.sq x2 == CE.sq x4 && (CE.at' x2 == CE.at' x4 && (CE.ad x2 == CE.ad x4 && (CE.as' x2 == CE.as' x4 && (CE.aa x2 == CE.aa x4 && (CE.tm x2 == CE.tm x4 && (CE.vl x2 == CE.vl x4 && CE.gn x2 == CE.gn x4))))))))) with c6 | c6
   · have h:=h.1 c6
     exact loop_next [kv 13 hz0,kt (decide_eq_true c1),ko (Orc.elem (Sq.enc x2)),ko (Orc.elem (Sq.enc x4)),kp hz1,kp hz2,kf (show (!(CE.dv x2 == CE.dv x4 && (CE.sq x2 == CE.sq x4 && (CE.at' x2 == CE.at' x4 && (CE.ad x2 == CE.ad x4 && (CE.as' x2 == CE.as' x4 && (CE.aa x2 == CE.aa x4 && (CE.tm x2 == CE.tm x4 && (CE.vl x2 == CE.vl x4 && CE.gn x2 == CE.gn x4)))))))))=false from (congrArg Bool.not (c6))),kv 16 (show Am.Sub (int (IntKind.wrap IntKind.i64 ((↑k:Int)+1))) (int (↑(k+1):Int)) from (Sub.of_wrap (by omega) (by omega) (by omega)))] (others 26 [0,1,4,5]) 0 h (by kernel_rfl)
   · have h:=h.2 c6
     obtain ⟨eX,e1⟩:=h
     exact RunL.to ((show RunL P G none 0 (loopAt P 30 0) (scS a b k) AEx.ret (St.mk (slots 26 [(4,Am.bool false)]) [] []) from loop_exit [kv 13 hz0,kt (decide_eq_true c1),ko (Orc.elem (Sq.enc x2)),ko (Orc.elem (Sq.enc x4)),kp hz1,kp hz2,kt (show (!(CE.dv x2 == CE.dv x4 && (CE.sq x2 == CE.sq x4 && (CE.at' x2 == CE.at' x4 && (CE.ad x2 == CE.ad x4 && (CE.as' x2 == CE.as' x4 && (CE.aa x2 == CE.aa x4 && (CE.tm x2 == CE.tm x4 && (CE.vl x2 == CE.vl x4 && CE.gn x2 == CE.gn x4)))))))))=true from (congrArg Bool.not (c6)))] (others 26 [4]) 0 (by kernel_rfl))) eX (SubS.slots ⟨rfl,(Sub.bool_eq e1),trivial⟩)
 · have h:=h.2 c1
   obtain ⟨eX,e1⟩:=h
   exact RunL.to ((show RunL P G none 0 (loopAt P 30 0) (scS a b k) (AEx.exit 0) (St.mk (slots 26 [(4,Am.bool false)]) [] []) from loop_exit [kv 13 hz0,kf (decide_eq_false c1)] (others 26 [4]) 0 (by kernel_rfl))) eX (SubS.slots ⟨rfl,(Sub.bool_eq e1),trivial⟩)
theorem sc_loop (a b:List CE) (hl:a.length=b.length) (hv:b.length≤1000000000):∀ n k,a.length - k=n→k≤a.length→RunL P G none 0 (loopAt P 30 0) (scS a b k) (if a.drop k=b.drop k then .exit 0 else .ret) { env:=slots 26 [(4,bool false)],H:=[] }:=by
 intro n
 induction n with
 | zero =>
  intro k hn hk
  have e:a.drop k=b.drop k:=by rw [List.drop_of_length_le (by omega),List.drop_of_length_le (by omega)]
  exact sc_w a b k hl hv _ _ ⟨fun h=>absurd h (by omega),fun _=>⟨by rw [if_pos e],rfl⟩⟩
 | succ n ih =>
  intro k hn hk
  have ha:k<a.length:=by omega
  have hb:k<b.length:=by omega
  have e:=drop_eq_iff ha hb
  refine sc_w a b k hl hv _ _ ⟨fun h=>⟨a[k],List.getElem?_eq_getElem ha,b[k],List.getElem?_eq_getElem hb,⟨fun hq=>?_,fun hq=>?_⟩⟩,fun h=>absurd ha (by omega)⟩
  · have h2:=ih (k+1) (by omega) (by omega)
    have hab:a[k]=b[k]:=(Sq.ce_eq _ _).1 hq
    rw [show (if a.drop k=b.drop k then AEx.exit 0 else .ret)=if a.drop (k+1)=b.drop (k+1) then AEx.exit 0 else .ret by simp only [e,hab,true_and]]
    exact h2
  · have hab:¬ a[k]=b[k]:=fun h=>by rw [(Sq.ce_eq _ _).2 h] at hq; cases hq
    rw [if_neg (fun h=>hab (e.1 h).1)]
    exact ⟨rfl,rfl⟩
theorem sc_run (a b:List CE) (hl:a.length=b.length) (hv:b.length≤1000000000):RunL P G none 0 (loopAt P 30 0) (scS a b 0) (if a=b then .exit 0 else .ret) { env:=slots 26 [(4,bool false)],H:=[] }:=sc_loop a b hl hv _ 0 rfl (by omega)
theorem scells_w (a b:List CE) (ha:a.length≤1000000000) (hv:b.length≤1000000000) (o:Bool) (h:((((↑(List.length a):Int)=(↑(List.length b):Int))→(((a=b)→(true)=(o))∧((¬a=b)→(false)=(o))))∧((¬(↑(List.length a):Int)=(↑(List.length b):Int))→(false)=(o)))):CallC P G 30 [ces a,ces b] [] (AOut.ret (Am.bool o)) []:=by
 have hz0:Am.Sub (int (↑(List.length (Sq.encs a)):Int)) (int (↑(List.length a):Int)):=(Sub.of_eq (by simp only [Go.Sq.encs_length]))
 have hz1:Am.Sub (int (↑(List.length (Sq.encs b)):Int)) (int (↑(List.length b):Int)):=(Sub.of_eq (by simp only [Go.Sq.encs_length]))
 by_cases c1:((↑(List.length a):Int)=(↑(List.length b):Int))
 · have h:=h.1 c1
   have hz2:((↑(List.length a):Int) != (↑(List.length b):Int))=false:=(congrArg Bool.not (beq_iff_eq.2 c1))
   by_cases c2:(a=b)
   · have h:=h.1 c2
     have e1:=h
     exact callC_out (Sub.bool_eq e1) [kv 7 hz0,kv 9 hz1,kf hz2,kl [2,3,6,7,8,9,10,11,12,13,14,15,16,17,18,19,20,21,22,23,24,25] 0 (show RunL P G none 0 (loopAt P 30 0) (St.mk (slots 26 [(0,AV.sl 9 false (Sq.encs a)),(1,AV.sl 9 false (Sq.encs b)),(4,Am.bool false),(5,int 0)]) [] []) (AEx.exit 0) (St.mk (slots 26 [(4,Am.bool false)]) [] []) from (by have h0:=(@Go.Tx.sc_run (a) (b) (by omega) (by omega)); simp only [if_pos c2] at h0; exact h0))] (by kernel_rfl)
   · have h:=h.2 c2
     have e1:=h
     exact callC_out (Sub.bool_eq e1) [kv 7 hz0,kv 9 hz1,kf hz2,kl [2,3,6,7,8,9,10,11,12,13,14,15,16,17,18,19,20,21,22,23,24,25] 0 (show RunL P G none 0 (loopAt P 30 0) (St.mk (slots 26 [(0,AV.sl 9 false (Sq.encs a)),(1,AV.sl 9 false (Sq.encs b)),(4,Am.bool false),(5,int 0)]) [] []) AEx.ret (St.mk (slots 26 [(4,Am.bool false)]) [] []) from (by have h0:=(@Go.Tx.sc_run (a) (b) (by omega) (by omega)); simp only [if_neg c2] at h0; exact h0))] (by kernel_rfl)
 · have h:=h.2 c1
   have e1:=h
   exact callC_out (Sub.bool_eq e1) [kv 7 hz0,kv 9 hz1,kt (show ((↑(List.length a):Int) != (↑(List.length b):Int))=true from (congrArg Bool.not (beq_eq_false_iff_ne.2 c1)))] (by kernel_rfl)
theorem scells_c (a b:List CE) (ha:a.length≤1000000000) (hv:b.length≤1000000000):CallC P G 30 [ces a,ces b] [] (.ret (bool (decide (a=b)))) []:=scells_w a b ha hv _ (by
 by_cases h:a=b
 · subst h; simp
 · simp [h])
theorem mk_eq (a b:MK):((a.dv == b.dv && (a.sq == b.sq && (a.tm == b.tm && (a.fd == b.fd && (a.fs == b.fs && (a.fa == b.fa && (a.td == b.td && (a.ts == b.ts && (a.ta == b.ta && (a.st == b.st && a.on == b.on))))))))))=true)↔a=b:=by
 cases a; cases b
 simp [MK.mk.injEq]
def smB (a b:TE):List AObj:=[.box [ces a.cells,mks a.marks],.box [ces b.cells,mks b.marks]]
def smS (a b:TE) (k:Nat):St:={ env:=slots 39 [(2,.ptr 0 0),(3,.ptr 1 0),(4,bool false),(5,int k)],H:=smB a b }
theorem sm_w (a b:TE) (k:Nat) (hl:a.marks.length=b.marks.length) (hv:b.marks.length≤1000000000) (ex:AEx) (o:Bool) (h:((((↑k:Int)<(↑(List.length (TE.marks a)):Int))→(∃ x2:MK,((TE.marks a)[k]? = some x2)∧(∃ x4:MK,((TE.marks b)[k]? = some x4)∧((((MK.dv x2 == MK.dv x4 && (MK.sq x2 == MK.sq x4 && (MK.tm x2 == MK.tm x4 && (MK.fd x2 == MK.fd x4 && (MK.fs x2 == MK.fs x4 && (MK.fa x2 == MK.fa x4 && (MK.td x2 == MK.td x4 && (MK.ts x2 == MK.ts x4 && (MK.ta x2 == MK.ta x4 && (MK.st x2 == MK.st x4 && MK.on x2 == MK.on x4))))))))))=true)→RunL P G none 0 (loopAt P 26 0) (St.mk (slots 39 [(2,AV.ptr 0 0),(3,AV.ptr 1 0),(4,Am.bool false),(5,int (↑(k+1):Int))]) [AObj.box [AV.sl 9 false (Sq.encs (TE.cells a)),AV.sl 11 false (encs (TE.marks a))],AObj.box [AV.sl 9 false (Sq.encs (TE.cells b)),AV.sl 11 false (encs (TE.marks b))]] []) ex (St.mk (slots 39 [(4,Am.bool o)]) (smB a b) []))∧(((MK.dv x2 == MK.dv x4 && (MK.sq x2 == MK.sq x4 && (MK.tm x2 == MK.tm x4 && (MK.fd x2 == MK.fd x4 && (MK.fs x2 == MK.fs x4 && (MK.fa x2 == MK.fa x4 && (MK.td x2 == MK.td x4 && (MK.ts x2 == MK.ts x4 && (MK.ta x2 == MK.ta x4 && (MK.st x2 == MK.st x4 && MK.on x2 == MK.on x4))))))))))=false)→(AEx.ret=ex)∧((false)=(o)))))))∧((¬(↑k:Int)<(↑(List.length (TE.marks a)):Int))→(AEx.exit 0=ex)∧((false)=(o))))):RunL P G none 0 (loopAt P 26 0) (smS a b k) ex (St.mk (slots 39 [(4,Am.bool o)]) (smB a b) []):=by
 have hz0:Am.Sub (int (↑(List.length (encs (TE.marks a))):Int)) (int (↑(List.length (TE.marks a)):Int)):=(Sub.of_eq (by simp only [Go.Tx.encs_length]))
 by_cases c1:((↑k:Int)<(↑(List.length (TE.marks a)):Int))
 · have h:=h.1 c1
   obtain ⟨x2,o3,h⟩:=h
   have hz1:(0:Int)≤(↑k:Int)∧(encs (TE.marks a))[Int.toNat (↑k:Int)]? = some (enc x2):=(el_nat o3)
   obtain ⟨x4,o5,h⟩:=h
   have hz2:(0:Int)≤(↑k:Int)∧(encs (TE.marks b))[Int.toNat (↑k:Int)]? = some (enc x4):=(el_nat o5)
   rcases Bool.eq_false_or_eq_true ((MK.dv x2 == MK.dv x4 && (MK.sq x2 == MK.sq x4 && (MK.tm x2 == MK.tm x4 && (MK.fd x2 == MK.fd x4 && (MK.fs x2 == MK.fs x4 && (MK.fa x2 == MK.fa x4 && (MK.td x2 == MK.td x4 && (MK.ts x2 == MK.ts x4 && (MK.ta x2 == MK.ta x4 && (MK.st x2 == MK.st x4 && MK.on x2 == MK.on x4))))))))))) with c6 | c6
   · have h:=h.1 c6
     exact loop_next [kv 24 hz0,kt (decide_eq_true c1),ko (Orc.elem (enc x2)),ko (Orc.elem (enc x4)),kp hz1,kp hz2,kf (show (!(MK.dv x2 == MK.dv x4 && (MK.sq x2 == MK.sq x4 && (MK.tm x2 == MK.tm x4 && (MK.fd x2 == MK.fd x4 && (MK.fs x2 == MK.fs x4 && (MK.fa x2 == MK.fa x4 && (MK.td x2 == MK.td x4 && (MK.ts x2 == MK.ts x4 && (MK.ta x2 == MK.ta x4 && (MK.st x2 == MK.st x4 && MK.on x2 == MK.on x4)))))))))))=false from (congrArg Bool.not (c6))),kv 27 (show Am.Sub (int (IntKind.wrap IntKind.i64 ((↑k:Int)+1))) (int (↑(k+1):Int)) from (Sub.of_wrap (by omega) (by omega) (by omega)))] (others 39 [2,3,4,5]) 2 h (by kernel_rfl)
   · have h:=h.2 c6
     obtain ⟨eX,e1⟩:=h
     exact RunL.to ((show RunL P G none 0 (loopAt P 26 0) (smS a b k) AEx.ret (St.mk (slots 39 [(4,Am.bool false)]) [AObj.box [AV.sl 9 false (Sq.encs (TE.cells a)),AV.sl 11 false (encs (TE.marks a))],AObj.box [AV.sl 9 false (Sq.encs (TE.cells b)),AV.sl 11 false (encs (TE.marks b))]] []) from loop_exit [kv 24 hz0,kt (decide_eq_true c1),ko (Orc.elem (enc x2)),ko (Orc.elem (enc x4)),kp hz1,kp hz2,kt (show (!(MK.dv x2 == MK.dv x4 && (MK.sq x2 == MK.sq x4 && (MK.tm x2 == MK.tm x4 && (MK.fd x2 == MK.fd x4 && (MK.fs x2 == MK.fs x4 && (MK.fa x2 == MK.fa x4 && (MK.td x2 == MK.td x4 && (MK.ts x2 == MK.ts x4 && (MK.ta x2 == MK.ta x4 && (MK.st x2 == MK.st x4 && MK.on x2 == MK.on x4)))))))))))=true from (congrArg Bool.not (c6)))] (others 39 [4]) 2 (by kernel_rfl))) eX (SubS.slots ⟨rfl,(Sub.bool_eq e1),trivial⟩)
 · have h:=h.2 c1
   obtain ⟨eX,e1⟩:=h
   exact RunL.to ((show RunL P G none 0 (loopAt P 26 0) (smS a b k) (AEx.exit 0) (St.mk (slots 39 [(4,Am.bool false)]) [AObj.box [AV.sl 9 false (Sq.encs (TE.cells a)),AV.sl 11 false (encs (TE.marks a))],AObj.box [AV.sl 9 false (Sq.encs (TE.cells b)),AV.sl 11 false (encs (TE.marks b))]] []) from loop_exit [kv 24 hz0,kf (decide_eq_false c1)] (others 39 [4]) 2 (by kernel_rfl))) eX (SubS.slots ⟨rfl,(Sub.bool_eq e1),trivial⟩)
theorem sm_loop (a b:TE) (hl:a.marks.length=b.marks.length) (hv:b.marks.length≤1000000000):∀ n k,a.marks.length - k=n→k≤a.marks.length→RunL P G none 0 (loopAt P 26 0) (smS a b k) (if a.marks.drop k=b.marks.drop k then .exit 0 else .ret) { env:=slots 39 [(4,bool false)],H:=smB a b }:=by
 intro n
 induction n with
 | zero =>
  intro k hn hk
  have e:a.marks.drop k=b.marks.drop k:=by rw [List.drop_of_length_le (by omega),List.drop_of_length_le (by omega)]
  exact sm_w a b k hl hv _ _ ⟨fun h=>absurd h (by omega),fun _=>⟨by rw [if_pos e],rfl⟩⟩
 | succ n ih =>
  intro k hn hk
  have ha:k<a.marks.length:=by omega
  have hb:k<b.marks.length:=by omega
  have e:=drop_eq_iff ha hb
  refine sm_w a b k hl hv _ _ ⟨fun h=>⟨a.marks[k],List.getElem?_eq_getElem ha,b.marks[k],List.getElem?_eq_getElem hb,⟨fun hq=>?_,fun hq=>?_⟩⟩,fun h=>absurd ha (by omega)⟩
  · have h2:=ih (k+1) (by omega) (by omega)
    have hab:a.marks[k]=b.marks[k]:=(mk_eq _ _).1 hq
    rw [show (if a.marks.drop k=b.marks.drop k then AEx.exit 0 else .ret)=if a.marks.drop (k+1)=b.marks.drop (k+1) then AEx.exit 0 else .ret by simp only [e,hab,true_and]]
    exact h2
  · have hab:¬ a.marks[k]=b.marks[k]:=fun h=>by rw [(mk_eq _ _).2 h] at hq; cases hq
    rw [if_neg (fun h=>hab (e.1 h).1)]
    exact ⟨rfl,rfl⟩
theorem sm_run (a b:TE) (hl:a.marks.length=b.marks.length) (hv:b.marks.length≤1000000000):RunL P G none 0 (loopAt P 26 0) (smS a b 0) (if a.marks=b.marks then .exit 0 else .ret) { env:=slots 39 [(4,bool false)],H:=smB a b }:=sm_loop a b hl hv _ 0 rfl (by omega)
theorem same_w (a b:TE) (hv:b.marks.length≤1000000000) (ha:a.marks.length≤1000000000) (q o:Bool) (hs:CallC P G 30 [ces a.cells,ces b.cells] [] (.ret (bool q)) []) (h:((((q)=true)→((((↑(List.length (TE.marks a)):Int)=(↑(List.length (TE.marks b)):Int))→(((TE.marks a=TE.marks b)→(true)=(o))∧((¬TE.marks a=TE.marks b)→(false)=(o))))∧((¬(↑(List.length (TE.marks a)):Int)=(↑(List.length (TE.marks b)):Int))→(false)=(o))))∧(((q)=false)→(false)=(o)))):CallC P G 26 [txt a,txt b] [] (AOut.ret (Am.bool o)) []:=by
 have hz0:=(@hs )
 rcases Bool.eq_false_or_eq_true ((q)) with c1 | c1
 · have h:=h.1 c1
   have hz1:(!q)=false:=(congrArg Bool.not (c1))
   have hz2:Am.Sub (int (↑(List.length (encs (TE.marks a))):Int)) (int (↑(List.length (TE.marks a)):Int)):=(Sub.of_eq (by simp only [Go.Tx.encs_length]))
   have hz3:Am.Sub (int (↑(List.length (encs (TE.marks b))):Int)) (int (↑(List.length (TE.marks b)):Int)):=(Sub.of_eq (by simp only [Go.Tx.encs_length]))
   by_cases c2:((↑(List.length (TE.marks a)):Int)=(↑(List.length (TE.marks b)):Int))
   · have h:=h.1 c2
     have hz4:((↑(List.length (TE.marks a)):Int) != (↑(List.length (TE.marks b)):Int))=false:=(congrArg Bool.not (beq_iff_eq.2 c2))
     by_cases c3:(TE.marks a=TE.marks b)
     · have h:=h.1 c3
       have e1:=h
       exact callC_out (Sub.bool_eq e1) [kc [] hz0,kf hz1,kv 15 hz2,kv 18 hz3,kf hz4,kl [0,1,6,7,8,9,10,11,12,13,14,15,16,17,18,19,20,21,22,23,24,25,26,27,28,29,30,31,32,33,34,35,36,37,38] 2 (show RunL P G none 0 (loopAt P 26 0) (St.mk (slots 39 [(2,AV.ptr 0 0),(3,AV.ptr 1 0),(4,Am.bool false),(5,int 0)]) [AObj.box [AV.sl 9 false (Sq.encs (TE.cells a)),AV.sl 11 false (encs (TE.marks a))],AObj.box [AV.sl 9 false (Sq.encs (TE.cells b)),AV.sl 11 false (encs (TE.marks b))]] []) (AEx.exit 0) (St.mk (slots 39 [(4,Am.bool false)]) [AObj.box [AV.sl 9 false (Sq.encs (TE.cells a)),AV.sl 11 false (encs (TE.marks a))],AObj.box [AV.sl 9 false (Sq.encs (TE.cells b)),AV.sl 11 false (encs (TE.marks b))]] []) from (by have h0:=(@Go.Tx.sm_run (a) (b) (by omega) (by omega)); simp only [if_pos c3] at h0; exact h0))] (by kernel_rfl)
     · have h:=h.2 c3
       have e1:=h
       exact callC_out (Sub.bool_eq e1) [kc [] hz0,kf hz1,kv 15 hz2,kv 18 hz3,kf hz4,kl [0,1,6,7,8,9,10,11,12,13,14,15,16,17,18,19,20,21,22,23,24,25,26,27,28,29,30,31,32,33,34,35,36,37,38] 2 (show RunL P G none 0 (loopAt P 26 0) (St.mk (slots 39 [(2,AV.ptr 0 0),(3,AV.ptr 1 0),(4,Am.bool false),(5,int 0)]) [AObj.box [AV.sl 9 false (Sq.encs (TE.cells a)),AV.sl 11 false (encs (TE.marks a))],AObj.box [AV.sl 9 false (Sq.encs (TE.cells b)),AV.sl 11 false (encs (TE.marks b))]] []) AEx.ret (St.mk (slots 39 [(4,Am.bool false)]) [AObj.box [AV.sl 9 false (Sq.encs (TE.cells a)),AV.sl 11 false (encs (TE.marks a))],AObj.box [AV.sl 9 false (Sq.encs (TE.cells b)),AV.sl 11 false (encs (TE.marks b))]] []) from (by have h0:=(@Go.Tx.sm_run (a) (b) (by omega) (by omega)); simp only [if_neg c3] at h0; exact h0))] (by kernel_rfl)
   · have h:=h.2 c2
     have e1:=h
     exact callC_out (Sub.bool_eq e1) [kc [] hz0,kf hz1,kv 15 hz2,kv 18 hz3,kt (show ((↑(List.length (TE.marks a)):Int) != (↑(List.length (TE.marks b)):Int))=true from (congrArg Bool.not (beq_eq_false_iff_ne.2 c2)))] (by kernel_rfl)
 · have h:=h.2 c1
   have e1:=h
   exact callC_out (Sub.bool_eq e1) [kc [] hz0,kt (show (!q)=true from (congrArg Bool.not (c1))),kt (Eq.refl true)] (by kernel_rfl)
theorem same_c (a b:TE) (hca:a.cells.length≤1000000000) (hcb:b.cells.length≤1000000000) (ha:a.marks.length≤1000000000) (hv:b.marks.length≤1000000000):CallC P G 26 [txt a,txt b] [] (.ret (bool (decide (a=b)))) []:=by
 refine same_w a b hv ha _ _ (scells_c a.cells b.cells hca hcb) ?_
 have e:a=b↔a.cells=b.cells∧a.marks=b.marks:=by cases a; cases b; simp [TE.mk.injEq]
 by_cases h1:a.cells=b.cells<;>by_cases h2:a.marks=b.marks
 · simp [e,h1,h2]
 · simp [e,h1,h2]
 · simp [e,h1,h2]
 · simp [e,h1,h2]
theorem few_w (t:TE) (h:((((↑(List.length (TE.cells t)):Int)≤(40:Int))→(decide ((↑(List.length (TE.marks t)):Int)≤(12:Int)))=(decide (List.length (TE.cells t)≤40∧List.length (TE.marks t)≤12)))∧((¬(↑(List.length (TE.cells t)):Int)≤(40:Int))→(false)=(decide (List.length (TE.cells t)≤40∧List.length (TE.marks t)≤12))))):CallC P G 12 [txt t] [] (AOut.ret (Am.bool (decide (List.length (TE.cells t)≤40∧List.length (TE.marks t)≤12)))) []:=by
 have hz0:Am.Sub (int (↑(List.length (Sq.encs (TE.cells t))):Int)) (int (↑(List.length (TE.cells t)):Int)):=(Sub.of_eq (by simp only [Go.Sq.encs_length]))
 by_cases c1:((↑(List.length (TE.cells t)):Int)≤(40:Int))
 · have h:=h.1 c1
   have e1:=h
   exact callC_out (Sub.bool_eq e1) [kv 5 hz0,kt (decide_eq_true c1),kv 10 (show Am.Sub (int (↑(List.length (encs (TE.marks t))):Int)) (int (↑(List.length (TE.marks t)):Int)) from (Sub.of_eq (by simp only [Go.Tx.encs_length])))] (by kernel_rfl)
 · have h:=h.2 c1
   have e1:=h
   exact callC_out (Sub.bool_eq e1) [kv 5 hz0,kf (decide_eq_false c1)] (by kernel_rfl)
theorem few_c (t:TE):CallC P G 12 [txt t] [] (.ret (bool (decide (t.cells.length≤40∧t.marks.length≤12)))) []:=few_w t (by grind)
def conB (l:List CE) (m:MK) (i:Int):Bool:=decide (ixP l m.frm≤i) && decide (i≤ixP l m.upto)
def catV:ByteArray→List CE→ByteArray
 | s,[]=>s
 | s,c::l=>catV (if c.gn=true then s else s++c.vl) l
def sumS (l:List CE):Nat:=(l.map fun c=>c.vl.size).sum
theorem sumS_cons (c:CE) (l:List CE):sumS (c::l)=c.vl.size+sumS l:=by simp [sumS]
def strV (t:TE):ByteArray:=catV ByteArray.empty t.cells
def rsS (t:TE) (s:ByteArray) (k:Nat):St:={ env:=slots 28 [(1,.ptr 0 0),(3,str s),(4,int k)],H:=[.box [ces t.cells,mks t.marks]] }
theorem rs_w (t:TE) (s:ByteArray) (k:Nat) (hv:t.cells.length≤1000000000) (ex:AEx) (s':St) (h:((((↑k:Int)<(↑(List.length (TE.cells t)):Int))→(∃ x2:CE,((TE.cells t)[k]? = some x2)∧((((CE.gn x2)=true)→RunL P G none 0 (loopAt P 20 0) (St.mk (slots 28 [(1,AV.ptr 0 0),(3,str s),(4,int (↑(k+1):Int))]) [AObj.box [AV.sl 9 false (Sq.encs (TE.cells t)),AV.sl 11 false (encs (TE.marks t))]] []) ex s')∧(((CE.gn x2)=false)→(((↑(ByteArray.size s+ByteArray.size (CE.vl x2)):Int)≤(9223372036854775807:Int))∧RunL P G none 0 (loopAt P 20 0) (St.mk (slots 28 [(1,AV.ptr 0 0),(3,str (s++CE.vl x2)),(4,int (↑(k+1):Int))]) [AObj.box [AV.sl 9 false (Sq.encs (TE.cells t)),AV.sl 11 false (encs (TE.marks t))]] []) ex s')))))∧((¬(↑k:Int)<(↑(List.length (TE.cells t)):Int))→(AEx.exit 0=ex)∧(St.mk (slots 28 [(3,str s)]) [AObj.box [AV.sl 9 false (Sq.encs (TE.cells t)),AV.sl 11 false (encs (TE.marks t))]] []=s')))):RunL P G none 0 (loopAt P 20 0) (rsS t s k) ex s':=by
 have hz0:Am.Sub (int (↑(List.length (Sq.encs (TE.cells t))):Int)) (int (↑(List.length (TE.cells t)):Int)):=(Sub.of_eq (by simp only [Go.Sq.encs_length]))
 by_cases c1:((↑k:Int)<(↑(List.length (TE.cells t)):Int))
 · have h:=h.1 c1
   obtain ⟨x2,o3,h⟩:=h
   have hz1:(0:Int)≤(↑k:Int)∧(Sq.encs (TE.cells t))[Int.toNat (↑k:Int)]? = some (Sq.enc x2):=(el_nat o3)
   rcases Bool.eq_false_or_eq_true ((CE.gn x2)) with c4 | c4
   · have h:=h.1 c4
     exact loop_next [kv 8 hz0,kt (decide_eq_true c1),ko (Orc.elem (Sq.enc x2)),kp hz1,kf (show (!CE.gn x2)=false from (congrArg Bool.not (c4))),kv 11 (show Am.Sub (int (IntKind.wrap IntKind.i64 ((↑k:Int)+1))) (int (↑(k+1):Int)) from (Sub.of_wrap (by omega) (by omega) (by omega)))] (others 28 [1,3,4]) 1 h (by kernel_rfl)
   · have h:=h.2 c4
     obtain ⟨o5,h⟩:=h
     exact loop_next [kv 8 hz0,kt (decide_eq_true c1),ko (Orc.elem (Sq.enc x2)),kp hz1,kt (show (!CE.gn x2)=true from (congrArg Bool.not (c4))),ko (Orc.elem (Sq.enc x2)),kp hz1,kp o5,kv 11 (show Am.Sub (int (IntKind.wrap IntKind.i64 ((↑k:Int)+1))) (int (↑(k+1):Int)) from (Sub.of_wrap (by omega) (by omega) (by omega)))] (others 28 [1,3,4]) 1 h (by kernel_rfl)
 · have h:=h.2 c1
   obtain ⟨eX,eS⟩:=h
   exact RunL.to ((show RunL P G none 0 (loopAt P 20 0) (rsS t s k) (AEx.exit 0) (St.mk (slots 28 [(3,str s)]) [AObj.box [AV.sl 9 false (Sq.encs (TE.cells t)),AV.sl 11 false (encs (TE.marks t))]] []) from loop_exit [kv 8 hz0,kf (decide_eq_false c1)] (others 28 [3]) 1 (by kernel_rfl))) eX (SubS.of_eq eS)
theorem rs_loop (t:TE) (hv:t.cells.length≤1000000000):∀ n k s,t.cells.length - k=n→k≤t.cells.length→s.size+sumS (t.cells.drop k)≤9223372036854775807→RunL P G none 0 (loopAt P 20 0) (rsS t s k) (.exit 0) { env:=slots 28 [(3,str (catV s (t.cells.drop k)))],H:=[.box [ces t.cells,mks t.marks]] }:=by
 intro n
 induction n with
 | zero =>
  intro k s hn hk hs
  rw [List.drop_eq_nil_of_le (by omega)]
  exact rs_w t s k hv _ _ ⟨fun h=>absurd h (by omega),fun _=>⟨rfl,rfl⟩⟩
 | succ n ih =>
  intro k s hn hk hs
  have hlt:k<t.cells.length:=by omega
  rw [List.drop_eq_getElem_cons hlt,sumS_cons] at hs
  rw [List.drop_eq_getElem_cons hlt,catV]
  have hx:t.cells[k]? = some t.cells[k]:=List.getElem?_eq_getElem hlt
  cases hg:t.cells[k].gn with
  | true =>
   rw [if_pos rfl]
   have nx:=ih (k+1) s (by omega) (by omega) (by omega)
   exact rs_w t s k hv _ _ ⟨fun _=>⟨_,hx,by simp only [hg]; first | exact ⟨fun _=>nx,fun h=>by simp at h⟩ | exact ⟨fun h=>by simp at h,fun _=>nx⟩⟩,fun h=>absurd hlt (by omega)⟩
  | false =>
   rw [if_neg (by decide)]
   have nx:=ih (k+1) (s++t.cells[k].vl) (by omega) (by omega) (by rw [ByteArray.size_append]; omega)
   exact rs_w t s k hv _ _ ⟨fun _=>⟨_,hx,by simp only [hg]; exact ⟨fun h=>by simp at h,fun _=>⟨by omega,nx⟩⟩⟩,fun h=>absurd hlt (by omega)⟩
theorem rs_run (t:TE) (hv:t.cells.length≤1000000000) (hs:sumS t.cells≤9223372036854775807):RunL P G none 0 (loopAt P 20 0) (rsS t ByteArray.empty 0) (.exit 0) { env:=slots 28 [(3,str (strV t))],H:=[.box [ces t.cells,mks t.marks]] }:=rs_loop t hv _ 0 ByteArray.empty rfl (by omega) (by simpa using hs)
end Go.Tx


namespace Go.Tx
open Go Go.Am Go.Proofs Go.Seat
open Go.Sq (CE cel ces ida idv pid fX fiO OkRs chkE)
def onF (l:List CE) (i s:Int):Bool→List MK→Bool
 | b,[]=>b
 | b,m::v=>onF l i s (if m.st=s∧conB l m i=true then m.on else b) v
def stF (t:TE) (i:Int):Nat→Nat→List Int
 | 0,_=>[]
 | n+1,s=>if onF t.cells i (s:Int) false t.marks=true then (s:Int)::stF t i n (s+1) else stF t i n (s+1)
def styV (t:TE) (i:Int):List Int:=stF t i 16 0
def sbT (t:TE):AObj:=.box [ces t.cells,mks t.marks]
end Go.Tx


namespace Go.Tx
open Go Go.Am Go.Proofs Go.Seat
open Go.Sq (CE cel ces ida idv pid fX fiO OkRs chkE)
abbrev u32 (n:Int):AV:=.lit (.int .u32 n)
def lowb (x:Int):Int:=IntKind.wrap IntKind.u32 ((BitVec.toNat (BitVec.ofInt (IntKind.bits IntKind.u32) x &&& BitVec.ofInt (IntKind.bits IntKind.u32) (IntKind.wrap IntKind.u32 (0 - x))):Nat):Int)
theorem tz_0 (x:Int) (h0:(x == 0)=false) (h:lowb x=1):CallC P G 62 [u32 x] [] (.ret (int 0)) [] :=
 callC_of [kf h0,kv 8 (show Sub (u32 (lowb x)) (u32 1) from Sub.of_eq (by rw [h])),kp (show (0:Int)≤(27:Int) from (by omega)),kp (show (0:Int)≤(0:Int)∧(0:Int)<(32:Int) from (by omega))] (by kernel_rfl)
theorem tz_1 (x:Int) (h0:(x == 0)=false) (h:lowb x=2):CallC P G 62 [u32 x] [] (.ret (int 1)) [] :=
 callC_of [kf h0,kv 8 (show Sub (u32 (lowb x)) (u32 2) from Sub.of_eq (by rw [h])),kp (show (0:Int)≤(27:Int) from (by omega)),kp (show (0:Int)≤(1:Int)∧(1:Int)<(32:Int) from (by omega))] (by kernel_rfl)
theorem tz_2 (x:Int) (h0:(x == 0)=false) (h:lowb x=4):CallC P G 62 [u32 x] [] (.ret (int 2)) [] :=
 callC_of [kf h0,kv 8 (show Sub (u32 (lowb x)) (u32 4) from Sub.of_eq (by rw [h])),kp (show (0:Int)≤(27:Int) from (by omega)),kp (show (0:Int)≤(3:Int)∧(3:Int)<(32:Int) from (by omega))] (by kernel_rfl)
theorem tz_3 (x:Int) (h0:(x == 0)=false) (h:lowb x=8):CallC P G 62 [u32 x] [] (.ret (int 3)) [] :=
 callC_of [kf h0,kv 8 (show Sub (u32 (lowb x)) (u32 8) from Sub.of_eq (by rw [h])),kp (show (0:Int)≤(27:Int) from (by omega)),kp (show (0:Int)≤(7:Int)∧(7:Int)<(32:Int) from (by omega))] (by kernel_rfl)
theorem tz_4 (x:Int) (h0:(x == 0)=false) (h:lowb x=16):CallC P G 62 [u32 x] [] (.ret (int 4)) [] :=
 callC_of [kf h0,kv 8 (show Sub (u32 (lowb x)) (u32 16) from Sub.of_eq (by rw [h])),kp (show (0:Int)≤(27:Int) from (by omega)),kp (show (0:Int)≤(14:Int)∧(14:Int)<(32:Int) from (by omega))] (by kernel_rfl)
theorem tz_5 (x:Int) (h0:(x == 0)=false) (h:lowb x=32):CallC P G 62 [u32 x] [] (.ret (int 5)) [] :=
 callC_of [kf h0,kv 8 (show Sub (u32 (lowb x)) (u32 32) from Sub.of_eq (by rw [h])),kp (show (0:Int)≤(27:Int) from (by omega)),kp (show (0:Int)≤(29:Int)∧(29:Int)<(32:Int) from (by omega))] (by kernel_rfl)
theorem tz_6 (x:Int) (h0:(x == 0)=false) (h:lowb x=64):CallC P G 62 [u32 x] [] (.ret (int 6)) [] :=
 callC_of [kf h0,kv 8 (show Sub (u32 (lowb x)) (u32 64) from Sub.of_eq (by rw [h])),kp (show (0:Int)≤(27:Int) from (by omega)),kp (show (0:Int)≤(27:Int)∧(27:Int)<(32:Int) from (by omega))] (by kernel_rfl)
theorem tz_7 (x:Int) (h0:(x == 0)=false) (h:lowb x=128):CallC P G 62 [u32 x] [] (.ret (int 7)) [] :=
 callC_of [kf h0,kv 8 (show Sub (u32 (lowb x)) (u32 128) from Sub.of_eq (by rw [h])),kp (show (0:Int)≤(27:Int) from (by omega)),kp (show (0:Int)≤(23:Int)∧(23:Int)<(32:Int) from (by omega))] (by kernel_rfl)
theorem tz_8 (x:Int) (h0:(x == 0)=false) (h:lowb x=256):CallC P G 62 [u32 x] [] (.ret (int 8)) [] :=
 callC_of [kf h0,kv 8 (show Sub (u32 (lowb x)) (u32 256) from Sub.of_eq (by rw [h])),kp (show (0:Int)≤(27:Int) from (by omega)),kp (show (0:Int)≤(15:Int)∧(15:Int)<(32:Int) from (by omega))] (by kernel_rfl)
theorem tz_9 (x:Int) (h0:(x == 0)=false) (h:lowb x=512):CallC P G 62 [u32 x] [] (.ret (int 9)) [] :=
 callC_of [kf h0,kv 8 (show Sub (u32 (lowb x)) (u32 512) from Sub.of_eq (by rw [h])),kp (show (0:Int)≤(27:Int) from (by omega)),kp (show (0:Int)≤(31:Int)∧(31:Int)<(32:Int) from (by omega))] (by kernel_rfl)
theorem tz_10 (x:Int) (h0:(x == 0)=false) (h:lowb x=1024):CallC P G 62 [u32 x] [] (.ret (int 10)) [] :=
 callC_of [kf h0,kv 8 (show Sub (u32 (lowb x)) (u32 1024) from Sub.of_eq (by rw [h])),kp (show (0:Int)≤(27:Int) from (by omega)),kp (show (0:Int)≤(30:Int)∧(30:Int)<(32:Int) from (by omega))] (by kernel_rfl)
theorem tz_11 (x:Int) (h0:(x == 0)=false) (h:lowb x=2048):CallC P G 62 [u32 x] [] (.ret (int 11)) [] :=
 callC_of [kf h0,kv 8 (show Sub (u32 (lowb x)) (u32 2048) from Sub.of_eq (by rw [h])),kp (show (0:Int)≤(27:Int) from (by omega)),kp (show (0:Int)≤(28:Int)∧(28:Int)<(32:Int) from (by omega))] (by kernel_rfl)
theorem tz_12 (x:Int) (h0:(x == 0)=false) (h:lowb x=4096):CallC P G 62 [u32 x] [] (.ret (int 12)) [] :=
 callC_of [kf h0,kv 8 (show Sub (u32 (lowb x)) (u32 4096) from Sub.of_eq (by rw [h])),kp (show (0:Int)≤(27:Int) from (by omega)),kp (show (0:Int)≤(25:Int)∧(25:Int)<(32:Int) from (by omega))] (by kernel_rfl)
theorem tz_13 (x:Int) (h0:(x == 0)=false) (h:lowb x=8192):CallC P G 62 [u32 x] [] (.ret (int 13)) [] :=
 callC_of [kf h0,kv 8 (show Sub (u32 (lowb x)) (u32 8192) from Sub.of_eq (by rw [h])),kp (show (0:Int)≤(27:Int) from (by omega)),kp (show (0:Int)≤(18:Int)∧(18:Int)<(32:Int) from (by omega))] (by kernel_rfl)
theorem tz_14 (x:Int) (h0:(x == 0)=false) (h:lowb x=16384):CallC P G 62 [u32 x] [] (.ret (int 14)) [] :=
 callC_of [kf h0,kv 8 (show Sub (u32 (lowb x)) (u32 16384) from Sub.of_eq (by rw [h])),kp (show (0:Int)≤(27:Int) from (by omega)),kp (show (0:Int)≤(5:Int)∧(5:Int)<(32:Int) from (by omega))] (by kernel_rfl)
theorem tz_15 (x:Int) (h0:(x == 0)=false) (h:lowb x=32768):CallC P G 62 [u32 x] [] (.ret (int 15)) [] :=
 callC_of [kf h0,kv 8 (show Sub (u32 (lowb x)) (u32 32768) from Sub.of_eq (by rw [h])),kp (show (0:Int)≤(27:Int) from (by omega)),kp (show (0:Int)≤(11:Int)∧(11:Int)<(32:Int) from (by omega))] (by kernel_rfl)
end Go.Tx


namespace Go.Tx
open Go Go.Am Go.Proofs Go.Seat
open Go.Sq (CE cel ces ida idv pid fX fiO OkRs chkE)
def mskB (s:Int):Int:=IntKind.wrap IntKind.u32 (1 * 2 ^ min (Int.toNat s) (IntKind.bits IntKind.u32))
def clrB (x s:Int):Int:=IntKind.wrap IntKind.u32 ((BitVec.toNat (BitVec.ofInt (IntKind.bits IntKind.u32) x &&& ~~~BitVec.ofInt (IntKind.bits IntKind.u32) (mskB s)):Nat):Int)
def orB (x s:Int):Int:=IntKind.wrap IntKind.u32 ((BitVec.toNat (BitVec.ofInt (IntKind.bits IntKind.u32) x ||| BitVec.ofInt (IntKind.bits IntKind.u32) (mskB s)):Nat):Int)
def putV (x s:Int) (o:Bool):Int:=if o=true then orB (clrB x s) s else clrB x s
def clrl (x:Int):Int:=IntKind.wrap IntKind.u32 ((BitVec.toNat (BitVec.ofInt (IntKind.bits IntKind.u32) x &&& BitVec.ofInt (IntKind.bits IntKind.u32) (IntKind.wrap IntKind.u32 (x - 1))):Nat):Int)
theorem put_w (x s:Int) (o:Bool) (hs:0≤s) (H':List AObj) (h:((((o)=true)→[AObj.box [AV.lit (Value.int IntKind.u32 (IntKind.wrap IntKind.u32 (↑(BitVec.toNat (BitVec.ofInt (IntKind.bits IntKind.u32) (IntKind.wrap IntKind.u32 (↑(BitVec.toNat (BitVec.ofInt (IntKind.bits IntKind.u32) x &&& ~~~BitVec.ofInt (IntKind.bits IntKind.u32) (IntKind.wrap IntKind.u32 (1 * 2 ^ min (Int.toNat s) (IntKind.bits IntKind.u32))))):Int)) ||| BitVec.ofInt (IntKind.bits IntKind.u32) (IntKind.wrap IntKind.u32 (1 * 2 ^ min (Int.toNat s) (IntKind.bits IntKind.u32))))):Int)))]]=H')∧(((o)=false)→[AObj.box [AV.lit (Value.int IntKind.u32 (IntKind.wrap IntKind.u32 (↑(BitVec.toNat (BitVec.ofInt (IntKind.bits IntKind.u32) x &&& ~~~BitVec.ofInt (IntKind.bits IntKind.u32) (IntKind.wrap IntKind.u32 (1 * 2 ^ min (Int.toNat s) (IntKind.bits IntKind.u32))))):Int)))]]=H'))):CallC P G 61 [AV.ptr 0 0,int s,Am.bool o] [AObj.box [u32 x]] (AOut.ret (AV.tup [])) H':=by
 have hz0:(0:Int)≤s:=(by omega)
 rcases Bool.eq_false_or_eq_true ((o)) with c1 | c1
 · have h:=h.1 c1
   have eH:=h
   exact CallC.heap ((show CallC P G 61 [AV.ptr 0 0,int s,Am.bool o] [AObj.box [u32 x]] (AOut.ret (AV.tup [])) [AObj.box [AV.lit (Value.int IntKind.u32 (IntKind.wrap IntKind.u32 (↑(BitVec.toNat (BitVec.ofInt (IntKind.bits IntKind.u32) (IntKind.wrap IntKind.u32 (↑(BitVec.toNat (BitVec.ofInt (IntKind.bits IntKind.u32) x &&& ~~~BitVec.ofInt (IntKind.bits IntKind.u32) (IntKind.wrap IntKind.u32 (1 * 2 ^ min (Int.toNat s) (IntKind.bits IntKind.u32))))):Int)) ||| BitVec.ofInt (IntKind.bits IntKind.u32) (IntKind.wrap IntKind.u32 (1 * 2 ^ min (Int.toNat s) (IntKind.bits IntKind.u32))))):Int)))]] from callC_of [kp hz0,kt c1,kp hz0] (by kernel_rfl))) eH
 · have h:=h.2 c1
   have eH:=h
   exact CallC.heap ((show CallC P G 61 [AV.ptr 0 0,int s,Am.bool o] [AObj.box [u32 x]] (AOut.ret (AV.tup [])) [AObj.box [AV.lit (Value.int IntKind.u32 (IntKind.wrap IntKind.u32 (↑(BitVec.toNat (BitVec.ofInt (IntKind.bits IntKind.u32) x &&& ~~~BitVec.ofInt (IntKind.bits IntKind.u32) (IntKind.wrap IntKind.u32 (1 * 2 ^ min (Int.toNat s) (IntKind.bits IntKind.u32))))):Int)))]] from callC_of [kp hz0,kf c1] (by kernel_rfl))) eH
theorem put_c (x s:Int) (o:Bool) (hs:0≤s):CallC P G 61 [.ptr 0 0,int s,bool o] [.box [u32 x]] (.ret (.tup [])) [.box [u32 (putV x s o)]]:=put_w x s o hs _ ⟨fun h=>by rw [putV,if_pos h]; rfl,fun h=>by rw [putV,h,if_neg (by decide)]; rfl⟩
def lsN (x:Int):St:={ env:=slots 15 [(0,u32 x),(2,nilS)],H:=[] }
def lsO (x:Int) (g:Nat) (l:List Int):St:={ env:=slots 15 [(0,u32 x),(2,.own 0 g 0 l.length)],H:=[.arr g 1 false (Vec.ints l)] }
def lsNX:St:={ env:=slots 15 [(2,nilS)],H:=[] }
def lsOX (g:Nat) (l:List Int):St:={ env:=slots 15 [(2,.own 0 g 0 l.length)],H:=[.arr g 1 false (Vec.ints l)] }
theorem ls_Ne (x:Int) (hx:x=0) (h:True):RunL P G none 0 (loopAt P 37 0) (lsN x) (AEx.exit 0) lsNX:=by
 have _:=h
 exact loop_exit [kf (show (x != 0)=false from (congrArg Bool.not (decide_eq_true (by omega))))] (others 15 [2]) 0 (by kernel_rfl)
theorem ls_Oe (x:Int) (g:Nat) (l:List Int) (hx:x=0) (h:True):RunL P G none 0 (loopAt P 37 0) (lsO x g l) (AEx.exit 0) (lsOX g l):=by
 have _:=h
 exact loop_exit [kf (show (x != 0)=false from (congrArg Bool.not (decide_eq_true (by omega))))] (others 15 [2]) 1 (by kernel_rfl)
theorem ls_N (x k:Int) (hx:¬ x=0) (hz:CallC P G 62 [u32 x] [] (.ret (int k)) []) (ex:AEx) (s':St) (h:RunL P G none 0 (loopAt P 37 0) (St.mk (slots 15 [(0,AV.lit (Value.int IntKind.u32 (IntKind.wrap IntKind.u32 (↑(BitVec.toNat (BitVec.ofInt (IntKind.bits IntKind.u32) x &&& BitVec.ofInt (IntKind.bits IntKind.u32) (IntKind.wrap IntKind.u32 (x - 1)))):Int)))),(2,AV.own 0 0 0 (List.length [k]))]) [AObj.arr 0 1 false (Vec.ints [k])] []) ex s'):RunL P G none 0 (loopAt P 37 0) (lsN x) ex s':=by
 exact loop_next [kt (show (x != 0)=true from (congrArg Bool.not (decide_eq_false (by omega)))),kc [] (@hz ),kp (show [[int k]]≠[] from (by simp)),kp (show 8≤140737488355328 from (by omega))] (others 15 [0,2]) 1 h (by kernel_rfl)
theorem ls_O (x k:Int) (g:Nat) (l:List Int) (hl:l.length≤16) (hx:¬ x=0) (hz:CallC P G 62 [u32 x] [] (.ret (int k)) []) (ex:AEx) (s':St) (h:RunL P G none 0 (loopAt P 37 0) (St.mk (slots 15 [(0,AV.lit (Value.int IntKind.u32 (IntKind.wrap IntKind.u32 (↑(BitVec.toNat (BitVec.ofInt (IntKind.bits IntKind.u32) x &&& BitVec.ofInt (IntKind.bits IntKind.u32) (IntKind.wrap IntKind.u32 (x - 1)))):Int)))),(2,AV.own 0 (g+1) 0 (List.length (l++[k])))]) [AObj.arr (g+1) 1 false (Vec.ints (l++[k]))] []) ex s'):RunL P G none 0 (loopAt P 37 0) (lsO x g l) ex s':=by
 exact loop_next [kt (show (x != 0)=true from (congrArg Bool.not (decide_eq_false (by omega)))),kc [] (@hz ),ko (Orc.hp (some 13) (AV.own 0 (g+1) 0 (List.length (l++[k]))) [AObj.arr (g+1) 1 false (Vec.ints (l++[k]))]),kp (show Am.Sub (AV.own 0 (g+1) 0 (List.length l+1)) (AV.own 0 (g+1) 0 (List.length (l++[k]))) from (Sub.of_eq (by simp [Go.Vec.ints_length,Go.Vec.ints_ids,Go.Vec.ints_pure]))),kp (show Am.HSub [AObj.arr (g+1) 1 false (Vec.ints l++[[int k]])] [AObj.arr (g+1) 1 false (Vec.ints (l++[k]))] from (⟨.inl (by simp only [Go.Vec.ints_append,Go.Vec.ints_one]),trivial⟩)),kp (show g=g from (rfl)),kp (show List.length l=List.length (Vec.ints l) from ((Go.Vec.ints_length _).symm)),kp (show (List.length l+1) * 8≤140737488355328 from (by omega))] (others 15 [0,2]) 1 h (by kernel_rfl)
theorem list_N (x:Int) (hL:RunL P G none 0 (loopAt P 37 0) (lsN x) (.exit 0) lsNX) (h:True):CallC P G 37 [u32 x] [] (AOut.ret (AV.sl 1 false [])) []:=by
 have _:=h
 exact CallC.out ((show CallC P G 37 [u32 x] [] (AOut.ret nilS) [] from callC_of [kl [1,3,4,5,6,7,8,9,10,11,12,13,14] 0 (@hL )] (by kernel_rfl))) (Sub.nil _)
theorem list_O (x:Int) (g:Nat) (l:List Int) (hL:RunL P G none 0 (loopAt P 37 0) (lsN x) (.exit 0) (lsOX g l)) (h:True):CallC P G 37 [u32 x] [] (AOut.ret (ils l)) []:=by
 have _:=h
 exact callC_of [kl [1,3,4,5,6,7,8,9,10,11,12,13,14] 0 (@hL ),ko (Orc.frz (Vec.ints l)),kp (show g=g from (rfl)),kp (show List.take (List.length l) (List.drop 0 (Vec.ints l))=Vec.ints l from (Go.Vec.ints_all _)),kp (show List.length (Vec.ints l)=List.length l from (Go.Vec.ints_length _)),kp (show ∀ (c:List AV),c∈Vec.ints l→List.all c AV.pureB=true from (Go.Vec.ints_pure _))] (by kernel_rfl)
structure IV where
 m:MK
 f:Int
 t:Int
def encI1 (v:IV):List AV:=[int v.m.dv,int v.m.sq,int v.m.tm,int v.m.fd,int v.m.fs,int v.m.fa,int v.m.td,int v.m.ts,int v.m.ta,int v.m.st,bool v.m.on,int v.f,int v.t]
def encI (v:List IV):List (List AV):=v.map encI1
theorem encI_length (v:List IV):(encI v).length=v.length:=by simp [encI]
theorem encI_append (a b:List IV):encI a++encI b=encI (a++b):=by simp [encI]
theorem encI_mk (m:MK) (f t:Int):[[AV.lit (Value.int IntKind.i64 m.dv),AV.lit (Value.int IntKind.i64 m.sq),AV.lit (Value.int IntKind.i64 m.tm),AV.lit (Value.int IntKind.i64 m.fd),AV.lit (Value.int IntKind.i64 m.fs),AV.lit (Value.int IntKind.i64 m.fa),AV.lit (Value.int IntKind.i64 m.td),AV.lit (Value.int IntKind.i64 m.ts),AV.lit (Value.int IntKind.i64 m.ta),AV.lit (Value.int IntKind.i64 m.st),AV.lit (Value.bool m.on),AV.lit (Value.int IntKind.i64 f),AV.lit (Value.int IntKind.i64 t)]]=encI [⟨m,f,t⟩]:=rfl
theorem encI_pure (v:List IV):∀ c∈encI v,c.all AV.pureB=true:=by
 intro c hc
 obtain ⟨d,_,rfl⟩:=List.mem_map.1 hc
 rfl
theorem encI_ids (v:List IV):∀ c∈encI v,AV.idsInL [] c=true:=by
 intro c hc
 obtain ⟨d,_,rfl⟩:=List.mem_map.1 hc
 rfl
theorem encI_all (v:List IV):List.take v.length (List.drop 0 (encI v))=encI v:=by rw [← encI_length v]; simp
abbrev ivA (v:List IV):AV:=.sl 13 false (encI v)
def ivOf (l:List CE) (m:MK):IV:=⟨m,(fiO (fX (pid m.fd m.fs m.fa) l)).1,(fiO (fX (pid m.td m.ts m.ta) l)).1⟩
def sdN (t:TE) (k:Nat):St:={ env:=slots 42 [(1,.ptr 0 0),(3,.ptr 1 0),(11,mks t.marks),(12,int t.marks.length),(13,int k)],H:=[sbT t,.box [nilS]] }
def sdO (t:TE) (k g:Nat) (v:List IV):St:={ env:=slots 42 [(1,.ptr 0 0),(3,.ptr 1 0),(11,mks t.marks),(12,int t.marks.length),(13,int k)],H:=[sbT t,.box [.own 3 g 0 v.length],.gone,.arr g 13 false (encI v)] }
def sdNX (t:TE):St:={ env:=slots 42 [(1,.ptr 0 0),(3,.ptr 1 0)],H:=[sbT t,.box [nilS]] }
def sdOX (t:TE) (g:Nat) (v:List IV):St:={ env:=slots 42 [(1,.ptr 0 0),(3,.ptr 1 0)],H:=[sbT t,.box [.own 3 g 0 v.length],.gone,.arr g 13 false (encI v)] }
def sdX (t:TE) (v:List IV):St:={ env:=slots 42 [(1,.ptr 0 0),(3,.ptr 1 0)],H:=[sbT t,.box [ivA v],.gone,.gone] }
theorem sd_Ne (t:TE) (k:Nat) (hk:¬ (k:Int)<(t.marks.length:Int)) (h:True):RunL P G none 0 (loopAt P 36 0) (sdN t k) (AEx.exit 0) (sdNX t):=by
 have _:=h
 exact loop_exit [kf (show decide ((↑k:Int)<(↑(List.length (TE.marks t)):Int))=false from (decide_eq_false (by omega)))] (others 42 [1,3]) 2 (by kernel_rfl)
theorem sd_Oe (t:TE) (k g:Nat) (v:List IV) (hk:¬ (k:Int)<(t.marks.length:Int)) (h:True):RunL P G none 0 (loopAt P 36 0) (sdO t k g v) (AEx.exit 0) (sdOX t g v):=by
 have _:=h
 exact loop_exit [kf (show decide ((↑k:Int)<(↑(List.length (TE.marks t)):Int))=false from (decide_eq_false (by omega)))] (others 42 [1,3]) 4 (by kernel_rfl)
theorem sd_N (t:TE) (k:Nat) (m:MK) (f u:Int) (fb ub:Bool) (hk:(k:Int)<(t.marks.length:Int)) (hv:t.marks.length≤1000000) (hm:t.marks[k]? = some m) (hf:CallC P G 54 [ces t.cells,ida m.fd m.fs m.fa] [] (.ret (.tup [int f,bool fb])) []) (hu:CallC P G 54 [ces t.cells,ida m.td m.ts m.ta] [] (.ret (.tup [int u,bool ub])) []) (ex:AEx) (s':St) (h:RunL P G none 0 (loopAt P 36 0) (St.mk (slots 42 [(1,AV.ptr 0 0),(3,AV.ptr 1 0),(11,AV.sl 11 false (encs (TE.marks t))),(12,int (↑(List.length (TE.marks t)):Int)),(13,int (↑(k+1):Int))]) [AObj.box [AV.sl 9 false (Sq.encs (TE.cells t)),AV.sl 11 false (encs (TE.marks t))],AObj.box [AV.own 3 0 0 1],AObj.box [int (MK.dv m),int (MK.sq m),int (MK.tm m),int (MK.fd m),int (MK.fs m),int (MK.fa m),int (MK.td m),int (MK.ts m),int (MK.ta m),int (MK.st m),Am.bool (MK.on m)],AObj.arr 0 13 false (encI [IV.mk m f u])] []) ex s'):RunL P G none 0 (loopAt P 36 0) (sdN t k) ex s':=by
 exact loop_next [kt (show decide ((↑k:Int)<(↑(List.length (TE.marks t)):Int))=true from (decide_eq_true (by omega))),ko (Orc.elem (enc m)),kp (show (0:Int)≤(↑k:Int)∧(encs (TE.marks t))[Int.toNat (↑k:Int)]? = some (enc m) from (el_nat hm)),kc [] (@hf ),kc [] (@hu ),kp (show [[int (MK.dv m),int (MK.sq m),int (MK.tm m),int (MK.fd m),int (MK.fs m),int (MK.fa m),int (MK.td m),int (MK.ts m),int (MK.ta m),int (MK.st m),Am.bool (MK.on m),int f,int u]]≠[] from (by simp)),kp (show 104≤140737488355328 from (by omega)),kv 40 (show Am.Sub (int (IntKind.wrap IntKind.i64 ((↑k:Int)+1))) (int (↑(k+1):Int)) from (Sub.of_wrap (by omega) (by omega) (by omega)))] (others 42 [1,3,11,12,13]) 4 h (by kernel_rfl)
theorem sd_O (t:TE) (k g:Nat) (v:List IV) (m:MK) (f u:Int) (fb ub:Bool) (hk:(k:Int)<(t.marks.length:Int)) (hv:t.marks.length≤1000000) (hl:v.length≤1000000) (hm:t.marks[k]? = some m) (hf:CallC P G 54 [ces t.cells,ida m.fd m.fs m.fa] [] (.ret (.tup [int f,bool fb])) []) (hu:CallC P G 54 [ces t.cells,ida m.td m.ts m.ta] [] (.ret (.tup [int u,bool ub])) []) (ex:AEx) (s':St) (h:RunL P G none 0 (loopAt P 36 0) (St.mk (slots 42 [(1,AV.ptr 0 0),(3,AV.ptr 1 0),(11,AV.sl 11 false (encs (TE.marks t))),(12,int (↑(List.length (TE.marks t)):Int)),(13,int (↑(k+1):Int))]) [AObj.box [AV.sl 9 false (Sq.encs (TE.cells t)),AV.sl 11 false (encs (TE.marks t))],AObj.box [AV.own 3 (g+1) 0 (List.length (v++[IV.mk m f u]))],AObj.gone,AObj.arr (g+1) 13 false (encI (v++[IV.mk m f u]))] []) ex s'):RunL P G none 0 (loopAt P 36 0) (sdO t k g v) ex s':=by
 exact loop_next [kt (show decide ((↑k:Int)<(↑(List.length (TE.marks t)):Int))=true from (decide_eq_true (by omega))),ko (Orc.elem (enc m)),kp (show (0:Int)≤(↑k:Int)∧(encs (TE.marks t))[Int.toNat (↑k:Int)]? = some (enc m) from (el_nat hm)),kc [] (@hf ),kc [] (@hu ),ko (Orc.hp (some 39) (AV.own 3 (g+1) 0 (List.length (v++[IV.mk m f u]))) [AObj.box [AV.sl 9 false (Sq.encs (TE.cells t)),AV.sl 11 false (encs (TE.marks t))],AObj.box [AV.own 3 g 0 (List.length v)],AObj.gone,AObj.arr (g+1) 13 false (encI (v++[IV.mk m f u])),AObj.box [int (MK.dv m),int (MK.sq m),int (MK.tm m),int (MK.fd m),int (MK.fs m),int (MK.fa m),int (MK.td m),int (MK.ts m),int (MK.ta m),int (MK.st m),Am.bool (MK.on m)]]),kp (show Am.Sub (AV.own 3 (g+1) 0 (List.length v+1)) (AV.own 3 (g+1) 0 (List.length (v++[IV.mk m f u]))) from (Sub.of_eq (by simp [Go.Tx.encI_length,Go.Tx.encI_ids,Go.Tx.encI_pure]))),kp (show Am.HSub [AObj.box [AV.sl 9 false (Sq.encs (TE.cells t)),AV.sl 11 false (encs (TE.marks t))],AObj.box [AV.own 3 g 0 (List.length v)],AObj.gone,AObj.arr (g+1) 13 false (encI v++[[int (MK.dv m),int (MK.sq m),int (MK.tm m),int (MK.fd m),int (MK.fs m),int (MK.fa m),int (MK.td m),int (MK.ts m),int (MK.ta m),int (MK.st m),Am.bool (MK.on m),int f,int u]]),AObj.box [int (MK.dv m),int (MK.sq m),int (MK.tm m),int (MK.fd m),int (MK.fs m),int (MK.fa m),int (MK.td m),int (MK.ts m),int (MK.ta m),int (MK.st m),Am.bool (MK.on m)]] [AObj.box [AV.sl 9 false (Sq.encs (TE.cells t)),AV.sl 11 false (encs (TE.marks t))],AObj.box [AV.own 3 g 0 (List.length v)],AObj.gone,AObj.arr (g+1) 13 false (encI (v++[IV.mk m f u])),AObj.box [int (MK.dv m),int (MK.sq m),int (MK.tm m),int (MK.fd m),int (MK.fs m),int (MK.fa m),int (MK.td m),int (MK.ts m),int (MK.ta m),int (MK.st m),Am.bool (MK.on m)]] from (⟨.inl rfl,.inl rfl,.inl rfl,.inl (by simp only [Go.Tx.encI_append,Go.Tx.encI_mk]),.inl rfl,trivial⟩)),kp (show g=g from (rfl)),kp (show List.length v=List.length (encI v) from ((Go.Tx.encI_length _).symm)),kp (show (List.length v+1) * 104≤140737488355328 from (by omega)),kv 40 (show Am.Sub (int (IntKind.wrap IntKind.i64 ((↑k:Int)+1))) (int (↑(k+1):Int)) from (Sub.of_wrap (by omega) (by omega) (by omega))),kp (show ∀ (x:List AV),x∈encI (v++[IV.mk m f u])→AV.idsInL [] x=true from (Go.Tx.encI_ids _))] (others 42 [1,3,11,12,13]) 4 h (by kernel_rfl)
theorem styled_N (t:TE) (hL:RunL P G none 0 (loopAt P 36 0) (sdN t 0) (.exit 0) (sdNX t)) (h:True):CallC P G 36 [txt t] [] (AOut.ret (AV.fn (Fn.func 60) [] [AV.ptr 0 0,AV.ptr 1 0])) [sbT t,AObj.box [nilS]]:=by
 have _:=h
 exact callC_of [kv 12 (show Am.Sub (int (↑(List.length (encs (TE.marks t))):Int)) (int (↑(List.length (TE.marks t)):Int)) from (Sub.of_eq (by simp only [Go.Tx.encs_length]))),kl [0,2,4,5,6,7,8,9,10,14,15,16,17,18,19,20,21,22,23,24,25,26,27,28,29,30,31,32,33,34,35,36,37,38,39,40,41] 2 (@hL )] (by kernel_rfl)
theorem styled_O (t:TE) (v:List IV) (hL:RunL P G none 0 (loopAt P 36 0) (sdN t 0) (.exit 0) (sdX t v)) (h:True):CallC P G 36 [txt t] [] (AOut.ret (AV.fn (Fn.func 60) [] [AV.ptr 0 0,AV.ptr 1 0])) [sbT t,AObj.box [ivA v],AObj.gone,AObj.gone]:=by
 have _:=h
 exact callC_of [kv 12 (show Am.Sub (int (↑(List.length (encs (TE.marks t))):Int)) (int (↑(List.length (TE.marks t)):Int)) from (Sub.of_eq (by simp only [Go.Tx.encs_length]))),kl [0,2,4,5,6,7,8,9,10,14,15,16,17,18,19,20,21,22,23,24,25,26,27,28,29,30,31,32,33,34,35,36,37,38,39,40,41] 2 (@hL )] (by kernel_rfl)
end Go.Tx


namespace Go.Tx
open Go Go.Am Go.Proofs Go.Seat
open Go.Sq (CE cel ces ida idv pid fX fiO OkRs chkE)
theorem preH {r:Option Nat} {n0:Nat} {c:Code} {s s':St} {K:List AObj} {ex:AEx} (hs:HSub s.H K) (h:RunL P G r n0 c { env:=s.env,H:=K,defs:=s.defs } ex s'):RunL P G r n0 c s ex s':=fun V0 V a h0 k1 k2 k3=>by
 obtain ⟨V2,a1,a2,a3,a4,a5⟩:=hsub_step k2 (k3.H ▸ hs)
 rw [← a1]
 exact h V0 V2 a h0 (k1.trans a4) a5 ⟨k3.env.step a4,a2,k3.defs.step a4⟩
theorem immFn2 {f:FuncId} {args:List AV} {F:Fn} {c0 c1:List AV} {rest:List AObj} (h:CallC P G f args [] (.ret (.fn F [] [.ptr 0 0,.ptr 1 0])) (.box c0 :: .box c1::rest)) (hp:c0.all AV.pureB=true) (hq:c1.all AV.pureB=true):CallC P G f args [] (.ret (.fn F [] [.imm c0,.imm c1])) []:=fun V vs hH hG hr =>
 (h V vs hH hG hr).mono fun e w' he=>by
  obtain ⟨V',k1,k3,k4,k2,k5⟩:=he
  have hH0:V'.H[0]? = some (.box c0):=by rw [k2]; rfl
  have hH1:V'.H[1]? = some (.box c1):=by rw [k2]; rfl
  have hVl:V.H.length=0:=by rw [hH]; rfl
  have hfr:∀ i,i<2→V.w.heap.size≤V'.ρ i:=fun i hi=>by
   rcases k3.fresh i (by rw [k2]; simp; omega) with h | h
   · have:=h.1; omega
   · exact h
  let V2:View:={ w:=V'.w,M:=fun b=>V'.M b∧b≠V'.ρ 0∧b≠V'.ρ 1,H:=[],ρ:=V'.ρ }
  have hst:Step V V2:={
   os:=k3.os
   tape:=k3.tape
   output:=k3.output
   size:=k3.size
   drawn:=k3.drawn
   keep:=fun b hb hn=>⟨(k3.keep b hb hn).1,⟨fun h=>(k3.keep b hb hn).2.1 h.1,fun h=>⟨(k3.keep b hb hn).2.2 h,fun e=>by have:=hfr 0 (by omega); omega,fun e=>by have:=hfr 1 (by omega); omega⟩⟩⟩
   data:=fun b hb hn=>⟨(k3.data b hb hn).1,fun h=>(k3.data b hb hn).2 h.1⟩
   hlen:=by rw [hVl]; exact Nat.zero_le _
   fresh:=fun i hi=>absurd hi (Nat.not_lt_zero _)
   obj:=fun i hi=>absurd hi (by omega) }
  have hG2:HeapRep G V2:={
   lt:=fun i hi=>absurd hi (Nat.not_lt_zero _)
   obj:=fun i ob ho=>by cases (show ([]:List AObj)[i]? = some ob from ho)
   inj:=fun i j hi=>absurd hi (Nat.not_lt_zero _)
   mutb:=fun i ob ho=>by cases (show ([]:List AObj)[i]? = some ob from ho)
   glob:=hG.glob_step hst }
  refine ⟨V2,k1,hst,hG2,rfl,?_⟩
  cases e with
  | panicked _=>exact k5.elim
  | outgrown=>exact k5.elim
  | returned v =>
   have k5:Rep V' (.fn F [] [.ptr 0 0,.ptr 1 0]) v:=k5
   show Rep V2 (.fn F [] [.imm c0,.imm c1]) v
   have imm:∀ {i:Nat} {cs:List AV},i<2→V'.H[i]? = some (.box cs)→cs.all AV.pureB=true→PRep V2.w V2.M (.imm cs) (.pointer (some ⟨V'.ρ i,0,none⟩)):=fun {i cs} hi hb hpu=>by
    obtain ⟨bs,hr,hc⟩:=box_cells k4 hb
    refine PRep.imm cs ⟨V'.ρ i,0,none⟩ (fun j=>bs.getD j undef) rfl (fun _ h=>?_) (fun j hj=>hc j hj) fun j hj=>?_
    · match i,hi with
      | 0,_=>exact h.2.1 rfl
      | 1,_=>exact h.2.2 rfl
    · have hx:=hr.2 j hj
      refine (pureB_sound ?_ hx).sameV rfl (fun b h=>h.1)
      rw [List.getD_eq_getElem?_getD,List.getElem?_eq_getElem hj]
      exact List.all_eq_true.1 hpu _ (List.getElem_mem _)
   have key:∀ us ws:List Value,us.length=0→ws.length=2→Rep V' (.ptr 0 0) (ws.getD 0 undef)→Rep V' (.ptr 1 0) (ws.getD 1 undef)→Rep V2 (.fn F [] [.imm c0,.imm c1]) (.func F us.toArray ws.toArray):=fun us ws h1 h2 h3 h3'=>by
    have h4:ws.getD 0 undef = .pointer (some ⟨V'.ρ 0,0,none⟩):=(rep_ptr h3).2
    have h5:ws.getD 1 undef = .pointer (some ⟨V'.ρ 1,0,none⟩):=(rep_ptr h3').2
    refine .pure _ _ (.fn F [] [.imm c0,.imm c1] us ws h1 h2 (fun j hj=>absurd hj (Nat.not_lt_zero _)) fun j hj=>?_)
    match j,hj with
    | 0,_=>rw [h4]; exact imm (by omega) hH0 hp
    | 1,_=>rw [h5]; exact imm (by omega) hH1 hq
   obtain ⟨us,ws,rfl,hu,hb⟩:=rep_fn k5
   exact key us ws hu.1 hb.1 (hb.2 0 (by simp)) (hb.2 1 (by simp))
abbrev sfn (t:TE) (v:List IV):AV:=.fn (.func 60) [] [.imm [ces t.cells,mks t.marks],.imm [ivA v]]
def ivsV (t:TE):List IV:=t.marks.map (ivOf t.cells)
theorem sd_loopO (t:TE) (hc:t.cells.length≤1000000) (hv:t.marks.length≤1000000):∀ n k g v,t.marks.length - k=n→k≤t.marks.length→v.length=k→RunL P G none 0 (loopAt P 36 0) (sdO t k g v) (.exit 0) (sdX t (v++(t.marks.drop k).map (ivOf t.cells))):=by
 intro n
 induction n with
 | zero =>
  intro k g v hn hk hl
  rw [List.drop_eq_nil_of_le (by omega),List.map_nil,List.append_nil]
  have h:=sd_Oe t k g v (by omega) trivial
  have e:evalFrz (sdOX t g v).H (.own 3 g 0 v.length) (encI v)=some (ivA v,[sbT t,.box [.own 3 g 0 v.length],.gone,.arr g 13 true (encI v)],[g=g,((encI v).drop 0).take v.length=encI v,(encI v).length=v.length,∀ c∈encI v,c.all AV.pureB=true]):=rfl
  have h1:=RunL.frzBox (j:=0) h (show (sdOX t g v).H[1]? = some (.box [.own 3 g 0 v.length]) from rfl) (show [sbT t,.box [.own 3 g 0 v.length],.gone,.arr g 13 true (encI v)][1]? = some (.box [.own 3 g 0 v.length]) from rfl) rfl e ⟨rfl,encI_all v,encI_length v,encI_pure v,trivial⟩
  exact RunL.postH h1 ⟨.inl rfl,.inl rfl,.inl rfl,.inr trivial,trivial⟩
 | succ n ih =>
  intro k g v hn hk hl
  have hlt:k<t.marks.length:=by omega
  have hm:t.marks[k]? = some t.marks[k]:=List.getElem?_eq_getElem hlt
  have nx:=ih (k+1) (g+1) (v++[ivOf t.cells t.marks[k]]) (by omega) (by omega) (by simp; omega)
  rw [List.drop_eq_getElem_cons hlt,List.map_cons,show v++ivOf t.cells t.marks[k]::(t.marks.drop (k+1)).map (ivOf t.cells)=v++[ivOf t.cells t.marks[k]]++(t.marks.drop (k+1)).map (ivOf t.cells) by simp]
  exact sd_O t k g v _ _ _ _ _ (by omega) hv (by omega) hm (find_c t.cells _ _ _ (by omega)) (find_c t.cells _ _ _ (by omega)) _ _ nx
theorem styled_c (t:TE) (hc:t.cells.length≤1000000) (hv:t.marks.length≤1000000):CallC P G 36 [txt t] [] (.ret (sfn t (ivsV t))) []:=by
 unfold ivsV
 by_cases hne:t.marks=[]
 · have h:=styled_N t (sd_Ne t 0 (by rw [hne]; simp) trivial) trivial
   have h2:=immFn2 h rfl rfl
   rw [hne,List.map_nil]
   refine h2.out ?_
   intro V v hr
   obtain ⟨us,vs,rfl,hu,hvv⟩:=rep_fn hr
   refine .fn _ _ _ us vs hu.1 hvv.1 hu.2 fun j hj=>?_
   have h2:j<2:=hj
   match j,h2 with
   | 0,_ =>
    exact hvv.2 0 (by simp)
   | 1,_ =>
    have h1:Rep V (.imm [nilS]) (vs.getD 1 undef):=hvv.2 1 (by simp)
    show Rep V (.imm [ivA []]) (vs.getD 1 undef)
    generalize vs.getD 1 undef=w1 at h1 ⊢
    have h3:=rep_imm h1
    cases h3 with
    | imm _ a ws hs hb hcl hrr =>
     refine .pure _ _ (.imm _ a ws hs (fun _=>hb (by simp)) hcl fun j hj=>?_)
     obtain rfl:j=0:=by have:j<1:=hj; omega
     have:=hrr 0 (by simp)
     have h5:=Sub.nil 13 V _ (.pure _ _ this)
     exact rep_sl h5
 · have hlt:0<t.marks.length:=List.length_pos_iff.2 hne
   have hm:t.marks[0]? = some t.marks[0]:=List.getElem?_eq_getElem hlt
   have nx:=sd_loopO t hc hv _ 1 0 [ivOf t.cells t.marks[0]] rfl (by omega) rfl
   have e:[ivOf t.cells t.marks[0]]++(t.marks.drop 1).map (ivOf t.cells)=t.marks.map (ivOf t.cells):=by
    conv=>rhs; rw [← List.drop_zero (l:=t.marks),List.drop_eq_getElem_cons hlt]
    rfl
   rw [e] at nx
   have h0:=sd_N t 0 t.marks[0] _ _ _ _ (by omega) hv hm (find_c t.cells _ _ _ (by omega)) (find_c t.cells _ _ _ (by omega)) _ _ (preH (K:=[sbT t,.box [.own 3 0 0 1],.gone,.arr 0 13 false (encI [ivOf t.cells t.marks[0]])]) ⟨.inl rfl,.inl rfl,.inr trivial,.inl rfl,trivial⟩ nx)
   exact immFn2 (styled_O t _ h0 trivial) rfl rfl
def bitF (p:Nat→Bool):Nat→Nat→List Int
 | 0,_=>[]
 | m+1,s=>if p s=true then (s:Int)::bitF p m (s+1) else bitF p m (s+1)
theorem bitF_len (p:Nat→Bool):∀ m s,(bitF p m s).length≤m
 | 0,_=>Nat.le_refl _
 | m+1,s=>by
  rw [bitF]
  have:=bitF_len p m (s+1)
  split
  · rw [List.length_cons]; omega
  · omega
theorem bitF_congr {p q:Nat→Bool}:∀ {m s:Nat},(∀ j,s≤j→j<s+m→p j=q j)→bitF p m s=bitF q m s
 | 0,_,_=>rfl
 | m+1,s,h=>by
  rw [bitF,bitF,h s (Nat.le_refl _) (by omega),bitF_congr fun j h1 h2=>h j (by omega) (by omega)]
theorem bitF_low {p q:Nat→Bool} {k:Nat} (h1:∀ j,j<k→p j=false) (h2:p k=true) (h3:∀ j,j≤k→q j=false) (h4:∀ j,k<j→q j=p j):∀ {m s:Nat},s≤k→k<s+m→bitF p m s=(k:Int)::bitF q m s
 | 0,s,h5,h6=>by omega
 | m+1,s,h5,h6=>by
  by_cases e:s=k
  · subst e
    rw [bitF,bitF,h2,if_pos rfl,h3 s (Nat.le_refl _),if_neg (by decide)]
    congr 1
    exact bitF_congr fun j a b=>(h4 j (by omega)).symm
  · rw [bitF,bitF,h1 s (by omega),if_neg (by decide),h3 s (by omega),if_neg (by decide)]
    exact bitF_low h1 h2 h3 h4 (by omega) (by omega)
theorem odd_split:∀ n:Nat,0<n→∃ k q,n=2 ^ k * (2 * q+1):=by
 intro n
 induction n using Nat.strongRecOn with
 | ind n ih =>
  intro hn
  by_cases h2:n % 2=0
  · obtain ⟨k,q,h⟩:=ih (n / 2) (by omega) (by omega)
    refine ⟨k+1,q,?_⟩
    rw [Nat.pow_succ,Nat.mul_comm (2 ^ k) 2,Nat.mul_assoc,← h]
    omega
  · exact ⟨0,n / 2,by simp; omega⟩
theorem tb_odd (q i:Nat):(2 * q+1).testBit i=if i=0 then true else q.testBit (i - 1):=by
 cases i with
 | zero=>simp
 | succ i=>rw [Nat.testBit_succ,show (2 * q+1) / 2=q by omega]; simp
theorem tb_even (q i:Nat):(2 * q).testBit i=if i=0 then false else q.testBit (i - 1):=by
 cases i with
 | zero=>simp
 | succ i=>rw [Nat.testBit_succ,show (2 * q) / 2=q by omega]; simp
theorem tb_at (k a j:Nat):(2 ^ k * a).testBit j=if j<k then false else a.testBit (j - k):=by
 have:=Nat.testBit_two_pow_mul_add a (b:=0) (i:=k) (Nat.two_pow_pos k) j
 simpa using this
theorem and_pred (k q:Nat):(2 ^ k * (2 * q+1)) &&& (2 ^ k * (2 * q+1) - 1)=2 ^ k * (2 * q):=by
 have e:2 ^ k * (2 * q+1) - 1=2 ^ k * (2 * q)+(2 ^ k - 1):=by
  have:=Nat.two_pow_pos k
  rw [Nat.mul_add]; omega
 apply Nat.eq_of_testBit_eq
 intro j
 rw [Nat.testBit_and,e,Nat.testBit_two_pow_mul_add _ (by have:=Nat.two_pow_pos k; omega),tb_at,tb_at]
 by_cases h:j<k
 · simp [h]
 · simp only [h,if_false]
   rw [tb_odd,tb_even]
   by_cases h0:j - k=0<;>simp [h0]
theorem and_neg (k q:Nat) (hn:2 ^ k * (2 * q+1)<2 ^ 32):(2 ^ k * (2 * q+1)) &&& (2 ^ 32 - 2 ^ k * (2 * q+1))=2 ^ k:=by
 have hk:k<32:=by
  rcases Nat.lt_or_ge k 32 with h | h
  · exact h
  · have h1:2 ^ 32≤2 ^ k:=Nat.pow_le_pow_right (by decide) h
    have h2:2 ^ k * 1≤2 ^ k * (2 * q+1):=Nat.mul_le_mul_left _ (by omega)
    omega
 have hp:2 ^ 32=2 ^ k * (2 * 2 ^ (31 - k)):=by
  rw [← Nat.pow_succ',← Nat.pow_add]; congr 1; omega
 have hq:q<2 ^ (31 - k):=by
  rw [hp] at hn
  have:=Nat.lt_of_mul_lt_mul_left hn
  omega
 have e:2 ^ 32 - 2 ^ k * (2 * q+1)=2 ^ k * (2 * (2 ^ (31 - k) - (q+1))+1):=by
  rw [hp,← Nat.mul_sub]
  congr 1
  omega
 apply Nat.eq_of_testBit_eq
 intro j
 rw [Nat.testBit_and,e,tb_at,tb_at,Nat.testBit_two_pow]
 by_cases h:j<k
 · simp [h]; omega
 · simp only [h,if_false]
   rw [tb_odd,tb_odd]
   by_cases h0:j - k=0
   · have:k=j:=by omega
     simp [this]
   · simp only [h0,if_false]
     rw [Nat.testBit_two_pow_sub_succ hq]
     have:¬ k=j:=by omega
     cases q.testBit (j - k - 1)<;>simp [this]
theorem wrap_nat (n:Nat) (h:n<2 ^ 32):IntKind.wrap IntKind.u32 (n:Int)=(n:Int):=by
 simp only [IntKind.wrap,IntKind.bits,IntKind.signed,Bool.false_and]
 rw [if_neg (by decide)]
 omega
theorem and_nat {a b:Nat} (ha:a<2 ^ 32) (hb:b<2 ^ 32):BitVec.toNat (BitVec.ofInt (IntKind.bits IntKind.u32) (a:Int) &&& BitVec.ofInt (IntKind.bits IntKind.u32) (b:Int))=a &&& b:=by
 show BitVec.toNat (BitVec.ofInt 32 (a:Int) &&& BitVec.ofInt 32 (b:Int))=a &&& b
 rw [BitVec.ofInt_natCast,BitVec.ofInt_natCast,BitVec.toNat_and,BitVec.toNat_ofNat,BitVec.toNat_ofNat,Nat.mod_eq_of_lt ha,Nat.mod_eq_of_lt hb]
theorem clrl_nat (k q:Nat) (hn:2 ^ k * (2 * q+1)<2 ^ 32):clrl ((2 ^ k * (2 * q+1):Nat):Int)=((2 ^ k * (2 * q):Nat):Int):=by
 have hpos:0<2 ^ k * (2 * q+1):=Nat.mul_pos (Nat.two_pow_pos k) (by omega)
 have e1:((2 ^ k * (2 * q+1):Nat):Int) - 1=((2 ^ k * (2 * q+1) - 1:Nat):Int):=by omega
 unfold clrl
 rw [e1,wrap_nat _ (show 2 ^ k * (2 * q+1) - 1<2 ^ 32 by omega),and_nat hn (show 2 ^ k * (2 * q+1) - 1<2 ^ 32 by omega),and_pred,wrap_nat]
 have:2 ^ k * (2 * q)≤2 ^ k * (2 * q+1):=Nat.mul_le_mul_left _ (by omega)
 omega
theorem lowb_nat (k q:Nat) (hn:2 ^ k * (2 * q+1)<2 ^ 32):lowb ((2 ^ k * (2 * q+1):Nat):Int)=((2 ^ k:Nat):Int):=by
 have hpos:0<2 ^ k * (2 * q+1):=Nat.mul_pos (Nat.two_pow_pos k) (by omega)
 have e1:IntKind.wrap IntKind.u32 (0 - ((2 ^ k * (2 * q+1):Nat):Int))=((2 ^ 32 - 2 ^ k * (2 * q+1):Nat):Int):=by
  generalize 2 ^ k * (2 * q+1)=n at hn hpos
  simp only [IntKind.wrap,IntKind.bits,IntKind.signed,Bool.false_and]
  rw [if_neg (by decide)]
  omega
 unfold lowb
 rw [e1,and_nat hn (show 2 ^ 32 - 2 ^ k * (2 * q+1)<2 ^ 32 by omega),and_neg k q hn,wrap_nat]
 have:2 ^ k * 1≤2 ^ k * (2 * q+1):=Nat.mul_le_mul_left _ (by omega)
 omega
theorem tz_all (x:Int) (h0:(x == 0)=false) (k:Nat) (p:Int) (hp:p=((2 ^ k:Nat):Int)) (hl:lowb x=p) (hk:k<16):CallC P G 62 [u32 x] [] (.ret (int (k:Int))) []:=by
 rcases (show k=0∨k=1∨k=2∨k=3∨k=4∨k=5∨k=6∨k=7∨k=8∨k=9∨k=10∨k=11∨k=12∨k=13∨k=14∨k=15 by omega) with rfl | rfl | rfl | rfl | rfl | rfl | rfl | rfl | rfl | rfl | rfl | rfl | rfl | rfl | rfl | rfl
 · exact tz_0 x h0 (hl.trans (hp.trans (by decide)))
 · exact tz_1 x h0 (hl.trans (hp.trans (by decide)))
 · exact tz_2 x h0 (hl.trans (hp.trans (by decide)))
 · exact tz_3 x h0 (hl.trans (hp.trans (by decide)))
 · exact tz_4 x h0 (hl.trans (hp.trans (by decide)))
 · exact tz_5 x h0 (hl.trans (hp.trans (by decide)))
 · exact tz_6 x h0 (hl.trans (hp.trans (by decide)))
 · exact tz_7 x h0 (hl.trans (hp.trans (by decide)))
 · exact tz_8 x h0 (hl.trans (hp.trans (by decide)))
 · exact tz_9 x h0 (hl.trans (hp.trans (by decide)))
 · exact tz_10 x h0 (hl.trans (hp.trans (by decide)))
 · exact tz_11 x h0 (hl.trans (hp.trans (by decide)))
 · exact tz_12 x h0 (hl.trans (hp.trans (by decide)))
 · exact tz_13 x h0 (hl.trans (hp.trans (by decide)))
 · exact tz_14 x h0 (hl.trans (hp.trans (by decide)))
 · exact tz_15 x h0 (hl.trans (hp.trans (by decide)))
theorem tz_c (k q:Nat) (hn:2 ^ k * (2 * q+1)<65536):CallC P G 62 [u32 ((2 ^ k * (2 * q+1):Nat):Int)] [] (.ret (int (k:Int))) []:=by
 have hk:k<16:=by
  rcases Nat.lt_or_ge k 16 with h | h
  · exact h
  · have h1:2 ^ 16≤2 ^ k:=Nat.pow_le_pow_right (by decide) h
    have h2:2 ^ k * 1≤2 ^ k * (2 * q+1):=Nat.mul_le_mul_left _ (by omega)
    omega
 have hpos:0<2 ^ k * (2 * q+1):=Nat.mul_pos (Nat.two_pow_pos k) (by omega)
 have h0:(((2 ^ k * (2 * q+1):Nat):Int) == 0)=false:=by simp only [beq_eq_false_iff_ne,ne_eq]; omega
 have hl:=lowb_nat k q (by omega)
 exact tz_all _ h0 k _ rfl hl hk
theorem bit_step (k q:Nat) (hn:2 ^ k * (2 * q+1)<65536):bitF (2 ^ k * (2 * q+1)).testBit 16 0=(k:Int)::bitF (2 ^ k * (2 * q)).testBit 16 0:=by
 have hk:k<16:=by
  rcases Nat.lt_or_ge k 16 with h | h
  · exact h
  · have h1:2 ^ 16≤2 ^ k:=Nat.pow_le_pow_right (by decide) h
    have h2:2 ^ k * 1≤2 ^ k * (2 * q+1):=Nat.mul_le_mul_left _ (by omega)
    omega
 refine bitF_low (k:=k) (fun j hj=>?_) ?_ (fun j hj=>?_) (fun j hj=>?_) (by omega) (by omega)
 · rw [tb_at,if_pos hj]
 · rw [tb_at,if_neg (by omega),Nat.sub_self,tb_odd,if_pos rfl]
 · rw [tb_at]
   split
   · rfl
   · rw [show j - k=0 by omega,tb_even,if_pos rfl]
 · rw [tb_at,tb_at,if_neg (by omega),if_neg (by omega),tb_odd,tb_even,if_neg (by omega),if_neg (by omega)]
theorem bitF_none:∀ m s,bitF (0:Nat).testBit m s=[]
 | 0,_=>rfl
 | m+1,s=>by rw [bitF,Nat.zero_testBit,if_neg (by decide),bitF_none m (s+1)]
theorem ls_loopO:∀ n:Nat,n<65536→∀ g l,l.length+(bitF n.testBit 16 0).length≤16→∃ g',RunL P G none 0 (loopAt P 37 0) (lsO (n:Int) g l) (.exit 0) (lsOX g' (l++bitF n.testBit 16 0)):=by
 intro n
 induction n using Nat.strongRecOn with
 | ind n ih =>
  intro hn g l hl
  rcases Nat.eq_zero_or_pos n with h0 | h0
  · subst h0
    rw [bitF_none,List.append_nil]
    exact ⟨g,ls_Oe 0 g l rfl trivial⟩
  · obtain ⟨k,q,rfl⟩:=odd_split n h0
    have hlt:2 ^ k * (2 * q)<2 ^ k * (2 * q+1):=Nat.mul_lt_mul_of_pos_left (by omega) (Nat.two_pow_pos k)
    rw [bit_step k q hn] at hl ⊢
    obtain ⟨g',nx⟩:=ih (2 ^ k * (2 * q)) hlt (by omega) (g+1) (l++[(k:Int)]) (by simp at hl ⊢; omega)
    refine ⟨g',ls_O _ (k:Int) g l (by simp at hl; omega) (by omega) (tz_c k q hn) _ _ ?_⟩
    rw [show l++(k:Int)::bitF (2 ^ k * (2 * q)).testBit 16 0=l++[(k:Int)]++bitF (2 ^ k * (2 * q)).testBit 16 0 by simp]
    rw [← clrl_nat k q (by omega)] at nx
    exact nx
theorem list_c (n:Nat) (hn:n<65536):CallC P G 37 [u32 (n:Int)] [] (.ret (ils (bitF n.testBit 16 0))) []:=by
 rcases Nat.eq_zero_or_pos n with h0 | h0
 · subst h0
   rw [bitF_none]
   exact list_N 0 (ls_Ne 0 rfl trivial) trivial
 · obtain ⟨k,q,rfl⟩:=odd_split n h0
   have hlt:2 ^ k * (2 * q)<2 ^ k * (2 * q+1):=Nat.mul_lt_mul_of_pos_left (by omega) (Nat.two_pow_pos k)
   have hlen:=bitF_len (2 ^ k * (2 * q+1)).testBit 16 0
   rw [bit_step k q hn] at hlen ⊢
   obtain ⟨g',nx⟩:=ls_loopO (2 ^ k * (2 * q)) (by omega) 0 [(k:Int)] (by simp at hlen ⊢; omega)
   rw [← clrl_nat k q (by omega)] at nx
   exact list_O _ g' _ (ls_N _ (k:Int) (by omega) (tz_c k q hn) _ _ nx) trivial
theorem msk_nat (s:Nat) (hs:s<16):mskB (s:Int)=((2 ^ s:Nat):Int):=by
 unfold mskB
 rw [Int.toNat_natCast,show min s (IntKind.bits IntKind.u32)=s by show min s 32=s; omega,Int.one_mul]
 have h2:2 ^ s<2 ^ 32:=Nat.pow_lt_pow_right (by decide) (by omega)
 have:=wrap_nat (2 ^ s) h2
 simpa using this
theorem clr_nat (n s:Nat) (hn:n<65536) (hs:s<16):∃ r:Nat,clrB (n:Int) (s:Int)=(r:Int)∧r<65536∧∀ j,r.testBit j=(n.testBit j && !decide (s=j)):=by
 have h2:2 ^ s<2 ^ 32:=Nat.pow_lt_pow_right (by decide) (by omega)
 refine ⟨(BitVec.ofNat 32 n &&& ~~~BitVec.ofNat 32 (2 ^ s)).toNat,?_,?_,fun j=>?_⟩
 · unfold clrB
   rw [msk_nat s hs]
   show IntKind.wrap IntKind.u32 ((BitVec.toNat (BitVec.ofInt 32 (n:Int) &&& ~~~BitVec.ofInt 32 ((2 ^ s:Nat):Int)):Nat):Int)=_
   rw [BitVec.ofInt_natCast,BitVec.ofInt_natCast]
   exact wrap_nat _ (BitVec.isLt _)
 · rw [BitVec.toNat_and]
   refine Nat.lt_of_le_of_lt Nat.and_le_left ?_
   rw [BitVec.toNat_ofNat]
   exact Nat.lt_of_le_of_lt (Nat.mod_le _ _) hn
 · rw [BitVec.testBit_toNat,BitVec.getLsbD_and,BitVec.getLsbD_not,BitVec.getLsbD_ofNat,BitVec.getLsbD_ofNat,Nat.testBit_two_pow]
   by_cases hj:j<32
   · simp [hj]
   · have:n.testBit j=false:=Nat.testBit_lt_two_pow (Nat.lt_of_lt_of_le hn (by
      have:2 ^ 16≤2 ^ j:=Nat.pow_le_pow_right (by decide) (by omega)
      omega))
     simp [hj,this]
theorem or_nat (n s:Nat) (hn:n<65536) (hs:s<16):∃ r:Nat,orB (n:Int) (s:Int)=(r:Int)∧r<65536∧∀ j,r.testBit j=(n.testBit j || decide (s=j)):=by
 have h2:2 ^ s<2 ^ 32:=Nat.pow_lt_pow_right (by decide) (by omega)
 have h16:2 ^ s<2 ^ 16:=Nat.pow_lt_pow_right (by decide) hs
 have e:(BitVec.ofNat 32 n ||| BitVec.ofNat 32 (2 ^ s)).toNat=n ||| 2 ^ s:=by
  rw [BitVec.toNat_or,BitVec.toNat_ofNat,BitVec.toNat_ofNat,Nat.mod_eq_of_lt (by omega),Nat.mod_eq_of_lt h2]
 refine ⟨n ||| 2 ^ s,?_,?_,fun j=>?_⟩
 · unfold orB
   rw [msk_nat s hs]
   show IntKind.wrap IntKind.u32 ((BitVec.toNat (BitVec.ofInt 32 (n:Int) ||| BitVec.ofInt 32 ((2 ^ s:Nat):Int)):Nat):Int)=_
   rw [BitVec.ofInt_natCast,BitVec.ofInt_natCast,← e]
   exact wrap_nat _ (BitVec.isLt _)
 · exact Nat.or_lt_two_pow (n:=16) hn h16
 · rw [Nat.testBit_or,Nat.testBit_two_pow]
theorem put_nat (n s:Nat) (o:Bool) (hn:n<65536) (hs:s<16):∃ r:Nat,putV (n:Int) (s:Int) o=(r:Int)∧r<65536∧∀ j,r.testBit j=if s=j then o else n.testBit j:=by
 obtain ⟨r,h1,h2,h3⟩:=clr_nat n s hn hs
 unfold putV
 cases o with
 | false =>
  rw [if_neg (by decide)]
  refine ⟨r,h1,h2,fun j=>?_⟩
  rw [h3]
  by_cases e:s=j<;>simp [e]
 | true =>
  rw [if_pos rfl,h1]
  obtain ⟨r',k1,k2,k3⟩:=or_nat r s h2 hs
  refine ⟨r',k1,k2,fun j=>?_⟩
  rw [k3,h3]
  by_cases e:s=j<;>simp [e]
end Go.Tx


namespace Go.Tx
open Go Go.Am Go.Proofs Go.Seat
open Go.Sq (CE cel ces ida idv pid fX fiO OkRs chkE)
def stN (i:Int):Int→List IV→Int
 | x,[]=>x
 | x,v::r=>stN i (if v.f≤i∧i≤v.t then putV x v.m.st v.m.on else x) r
abbrev putF (b:Nat):AV:=.fn (.func 61) [.ptr b 0] []
noncomputable def jrS:AObj:=.rng .ready none (slots 23 [(3,.ptr 1 0),(4,.ptr 2 0),(5,.ptr 3 0)]) #[16,17] (asgAt P 13 0) (rbodyAt P 13 0)
noncomputable def jrD:AObj:=.rng .done (some .ret) (slots 23 [(3,.ptr 1 0),(4,.ptr 2 0),(5,.ptr 3 0)]) #[16,17] (asgAt P 13 0) (rbodyAt P 13 0)
noncomputable def hS (i:Int):List AObj:=[jrS,.box [int i],.box [nilS],.box [int 0]]
noncomputable def piS (i:Int) (t:TE) (v:List IV) (n k:Nat) (x:Int) (j:Nat):St:={ env:=slots 47 [(0,.yl 0),(1,.imm [ces t.cells,mks t.marks]),(2,.imm [ivA v]),(4,int k),(5,.ptr 4 0),(6,putF 4),(11,int n),(12,int k),(16,ivA v),(17,int v.length),(18,int j)],H:=hS i++[.box [u32 x]] }
noncomputable def piX (i:Int) (t:TE) (v:List IV) (n k:Nat) (x:Int):St:={ env:=slots 47 [(0,.yl 0),(1,.imm [ces t.cells,mks t.marks]),(2,.imm [ivA v]),(4,int k),(5,.ptr 4 0),(11,int n),(12,int k)],H:=hS i++[.box [u32 x]] }
theorem pi_e (i:Int) (t:TE) (v:List IV) (n k:Nat) (x:Int) (j:Nat) (hj:¬ (j:Int)<(v.length:Int)) (h:True):RunL P G none 4 (loopAt P 60 1) (piS i t v n k x j) (AEx.exit 2) (piX i t v n k x):=by
 have _:=h
 exact loop_exit [kf (show decide ((↑j:Int)<(↑(List.length v):Int))=false from (decide_eq_false (by omega)))] (others 47 [0,1,2,4,5,11,12]) 5 (by kernel_rfl)
theorem pi_n (i:Int) (t:TE) (v:List IV) (n k:Nat) (x:Int) (j:Nat) (y:IV) (hj:(j:Int)<(v.length:Int)) (hv:v.length≤1000000) (hy:v[j]? = some y) (hst:0≤y.m.st) (ex:AEx) (s:St) (h:(((IV.f y≤(↑k:Int))→((((↑k:Int)≤IV.t y)→RunL P G none 4 (loopAt P 60 1) (St.mk (slots 47 [(0,AV.yl 0),(1,AV.imm [AV.sl 9 false (Sq.encs (TE.cells t)),AV.sl 11 false (encs (TE.marks t))]),(2,AV.imm [AV.sl 13 false (encI v)]),(4,int (↑k:Int)),(5,AV.ptr 4 0),(6,AV.fn (Fn.func 61) [AV.ptr 4 0] []),(11,int (↑n:Int)),(12,int (↑k:Int)),(16,AV.sl 13 false (encI v)),(17,int (↑(List.length v):Int)),(18,int (↑(j+1):Int))]) [jrS,AObj.box [int i],AObj.box [nilS],AObj.box [int 0],AObj.box [AV.lit (Value.int IntKind.u32 (putV x (MK.st (IV.m y)) (MK.on (IV.m y))))]] []) ex s)∧((¬(↑k:Int)≤IV.t y)→RunL P G none 4 (loopAt P 60 1) (St.mk (slots 47 [(0,AV.yl 0),(1,AV.imm [AV.sl 9 false (Sq.encs (TE.cells t)),AV.sl 11 false (encs (TE.marks t))]),(2,AV.imm [AV.sl 13 false (encI v)]),(4,int (↑k:Int)),(5,AV.ptr 4 0),(6,AV.fn (Fn.func 61) [AV.ptr 4 0] []),(11,int (↑n:Int)),(12,int (↑k:Int)),(16,AV.sl 13 false (encI v)),(17,int (↑(List.length v):Int)),(18,int (↑(j+1):Int))]) [jrS,AObj.box [int i],AObj.box [nilS],AObj.box [int 0],AObj.box [AV.lit (Value.int IntKind.u32 x)]] []) ex s)))∧((¬IV.f y≤(↑k:Int))→RunL P G none 4 (loopAt P 60 1) (St.mk (slots 47 [(0,AV.yl 0),(1,AV.imm [AV.sl 9 false (Sq.encs (TE.cells t)),AV.sl 11 false (encs (TE.marks t))]),(2,AV.imm [AV.sl 13 false (encI v)]),(4,int (↑k:Int)),(5,AV.ptr 4 0),(6,AV.fn (Fn.func 61) [AV.ptr 4 0] []),(11,int (↑n:Int)),(12,int (↑k:Int)),(16,AV.sl 13 false (encI v)),(17,int (↑(List.length v):Int)),(18,int (↑(j+1):Int))]) [jrS,AObj.box [int i],AObj.box [nilS],AObj.box [int 0],AObj.box [AV.lit (Value.int IntKind.u32 x)]] []) ex s))):RunL P G none 4 (loopAt P 60 1) (piS i t v n k x j) ex s:=by
 have hz0:decide ((↑j:Int)<(↑(List.length v):Int))=true:=(decide_eq_true (by omega))
 have hz1:(0:Int)≤(↑j:Int)∧(encI v)[Int.toNat (↑j:Int)]? = some (encI1 y):=(el_nat hy)
 by_cases c2:(IV.f y≤(↑k:Int))
 · have h:=h.1 c2
   by_cases c3:((↑k:Int)≤IV.t y)
   · have h:=h.1 c3
     exact loop_next [kt hz0,ko (Orc.elem (encI1 y)),kp hz1,kt (decide_eq_true c2),kt (decide_eq_true c3),kc [4] (@Go.Tx.put_c (x) (MK.st (IV.m y)) (MK.on (IV.m y)) (by omega)),kv 40 (show Am.Sub (int (IntKind.wrap IntKind.i64 ((↑j:Int)+1))) (int (↑(j+1):Int)) from (Sub.of_wrap (by omega) (by omega) (by omega)))] (others 47 [0,1,2,4,5,6,11,12,16,17,18]) 5 h (by kernel_rfl)
   · have h:=h.2 c3
     exact loop_next [kt hz0,ko (Orc.elem (encI1 y)),kp hz1,kt (decide_eq_true c2),kf (decide_eq_false c3),kv 40 (show Am.Sub (int (IntKind.wrap IntKind.i64 ((↑j:Int)+1))) (int (↑(j+1):Int)) from (Sub.of_wrap (by omega) (by omega) (by omega)))] (others 47 [0,1,2,4,5,6,11,12,16,17,18]) 5 h (by kernel_rfl)
 · have h:=h.2 c2
   exact loop_next [kt hz0,ko (Orc.elem (encI1 y)),kp hz1,kf (decide_eq_false c2),kf (Eq.refl false),kv 40 (show Am.Sub (int (IntKind.wrap IntKind.i64 ((↑j:Int)+1))) (int (↑(j+1):Int)) from (Sub.of_wrap (by omega) (by omega) (by omega)))] (others 47 [0,1,2,4,5,6,11,12,16,17,18]) 5 h (by kernel_rfl)
theorem ys_n (i j x:Int) (hne:¬ j=i) (b:Bool) (H':List AObj) (h:(true=b)∧([jrS,AObj.box [int i],AObj.box [nilS],AObj.box [int 0],AObj.box [AV.lit (Value.int IntKind.u32 x)]]=H')):YieldC P G 0 [int j,u32 x] (hS i++[AObj.box [u32 x]]) b H':=by
 obtain ⟨e1,e2⟩:=h
 exact YieldC.to ((show YieldC P G 0 [int j,u32 x] (hS i++[AObj.box [u32 x]]) true [jrS,AObj.box [int i],AObj.box [nilS],AObj.box [int 0],AObj.box [AV.lit (Value.int IntKind.u32 x)]] from yieldC_of (fun _=>[kf (show (j == i)=false from (decide_eq_false (by omega)))]) (fun _=>by kernel_rfl))) e1 e2
theorem ys_r (i j x:Int) (l:List Int) (hne:j=i) (hl:CallC P G 37 [u32 x] [] (.ret (ils l)) []) (b:Bool) (H':List AObj) (h:(false=b)∧([AObj.rng LoopState.done (some Code.ret) (slots 23 [(3,AV.ptr 1 0),(4,AV.ptr 2 0),(5,AV.ptr 3 0)]) (Array.mk [16,17]) (asgAt P 13 0) (rbodyAt P 13 0),AObj.box [int i],AObj.box [AV.sl 1 false (Vec.ints l)],AObj.box [int 0],AObj.box [AV.lit (Value.int IntKind.u32 x)]]=H')):YieldC P G 0 [int j,u32 x] (hS i++[AObj.box [u32 x]]) b H':=by
 obtain ⟨e1,e2⟩:=h
 exact YieldC.to ((show YieldC P G 0 [int j,u32 x] (hS i++[AObj.box [u32 x]]) false [AObj.rng LoopState.done (some Code.ret) (slots 23 [(3,AV.ptr 1 0),(4,AV.ptr 2 0),(5,AV.ptr 3 0)]) (Array.mk [16,17]) (asgAt P 13 0) (rbodyAt P 13 0),AObj.box [int i],AObj.box [AV.sl 1 false (Vec.ints l)],AObj.box [int 0],AObj.box [AV.lit (Value.int IntKind.u32 x)]] from yieldC_of (fun _=>[kt (show (j == i)=true from (decide_eq_true (by omega))),kc [] (@hl )]) (fun _=>by kernel_rfl))) e1 e2
noncomputable def hD (i:Int) (l:List Int):List AObj:=[jrD,.box [int i],.box [ils l],.box [int 0]]
noncomputable def ouS (i:Int) (t:TE) (v:List IV) (n k:Nat):St:={ env:=slots 47 [(0,.yl 0),(1,.imm [ces t.cells,mks t.marks]),(2,.imm [ivA v]),(11,int n),(12,int k)],H:=hS i }
noncomputable def ouX (i:Int):St:={ env:=slots 47 [],H:=hS i }
noncomputable def ouR (i:Int) (l:List Int):St:={ env:=slots 47 [],H:=hD i l }
theorem ou_e (i:Int) (t:TE) (v:List IV) (n k:Nat) (hk:¬ (k:Int)<(n:Int)) (h:True):RunL P G none 4 (loopAt P 60 0) (ouS i t v n k) (AEx.exit 0) (ouX i):=by
 have _:=h
 exact loop_exit [kf (show decide ((↑k:Int)<(↑n:Int))=false from (decide_eq_false (by omega)))] (others 47 []) 4 (by kernel_rfl)
theorem ou_n (i:Int) (t:TE) (v:List IV) (n k:Nat) (x:Int) (hk:(k:Int)<(n:Int)) (hn:n≤1000000) (hI:RunL P G none 4 (loopAt P 60 1) (piS i t v n k 0 0) (.exit 2) (piX i t v n k x)) (hy:YieldC P G 0 [int k,u32 x] (hS i++[.box [u32 x]]) true (hS i++[.box [u32 x]])) (ex:AEx) (s:St) (h:RunL P G none 4 (loopAt P 60 0) (St.mk (slots 47 [(0,AV.yl 0),(1,AV.imm [AV.sl 9 false (Sq.encs (TE.cells t)),AV.sl 11 false (encs (TE.marks t))]),(2,AV.imm [AV.sl 13 false (encI v)]),(11,int (↑n:Int)),(12,int (↑(k+1):Int))]) [jrS,AObj.box [int i],AObj.box [nilS],AObj.box [int 0]] []) ex s):RunL P G none 4 (loopAt P 60 0) (ouS i t v n k) ex s:=by
 exact loop_next [kt (show decide ((↑k:Int)<(↑n:Int))=true from (decide_eq_true (by omega))),kv 17 (show Am.Sub (int (↑(List.length (encI v)):Int)) (int (↑(List.length v):Int)) from (Sub.of_eq (by simp only [Go.Tx.encI_length]))),kl [13,14,15] 5 (@hI ),ko (Orc.call [] (AOut.ret (Am.bool true)) (hS i++[AObj.box [u32 x]])),kp (@hy ),kf (Eq.refl false),kv 46 (show Am.Sub (int (IntKind.wrap IntKind.i64 ((↑k:Int)+1))) (int (↑(k+1):Int)) from (Sub.of_wrap (by omega) (by omega) (by omega)))] (others 47 [0,1,2,11,12]) 4 h (by kernel_rfl)
theorem ou_r (i:Int) (t:TE) (v:List IV) (n k:Nat) (x:Int) (l:List Int) (hk:(k:Int)<(n:Int)) (hn:n≤1000000) (hI:RunL P G none 4 (loopAt P 60 1) (piS i t v n k 0 0) (.exit 2) (piX i t v n k x)) (hy:YieldC P G 0 [int k,u32 x] (hS i++[.box [u32 x]]) false (hD i l++[.box [u32 x]])) (h:True):RunL P G none 4 (loopAt P 60 0) (ouS i t v n k) AEx.ret (ouR i l):=by
 have _:=h
 exact loop_exit [kt (show decide ((↑k:Int)<(↑n:Int))=true from (decide_eq_true (by omega))),kv 17 (show Am.Sub (int (↑(List.length (encI v)):Int)) (int (↑(List.length v):Int)) from (Sub.of_eq (by simp only [Go.Tx.encI_length]))),kl [13,14,15] 5 (@hI ),ko (Orc.call [] (AOut.ret (Am.bool false)) (hD i l++[AObj.box [u32 x]])),kp (@hy ),kt (Eq.refl true)] (others 47 []) 4 (by kernel_rfl)
theorem it_n (i:Int) (t:TE) (v:List IV) (hL:RunL P G none 4 (loopAt P 60 0) (ouS i t v t.cells.length 0) (.exit 0) (ouX i)) (h:True):CallC P G 60 [AV.yl 0,AV.imm [ces (TE.cells t),mks (TE.marks t)],AV.imm [ivA v]] (hS i) (AOut.ret (AV.tup [])) (hS i):=by
 have _:=h
 exact callC_of [kv 11 (show Am.Sub (int (↑(List.length (Sq.encs (TE.cells t))):Int)) (int (↑(List.length (TE.cells t)):Int)) from (Sub.of_eq (by simp only [Go.Sq.encs_length]))),kl [3,4,5,6,7,8,9,10,13,14,15,16,17,18,19,20,21,22,23,24,25,26,27,28,29,30,31,32,33,34,35,36,37,38,39,40,41,42,43,44,45,46] 4 (@hL )] (by kernel_rfl)
theorem it_r (i:Int) (t:TE) (v:List IV) (l:List Int) (hL:RunL P G none 4 (loopAt P 60 0) (ouS i t v t.cells.length 0) .ret (ouR i l)) (h:True):CallC P G 60 [AV.yl 0,AV.imm [ces (TE.cells t),mks (TE.marks t)],AV.imm [ivA v]] (hS i) (AOut.ret (AV.tup [])) (hD i l):=by
 have _:=h
 exact callC_of [kv 11 (show Am.Sub (int (↑(List.length (Sq.encs (TE.cells t))):Int)) (int (↑(List.length (TE.cells t)):Int)) from (Sub.of_eq (by simp only [Go.Sq.encs_length]))),kl [3,4,5,6,7,8,9,10,13,14,15,16,17,18,19,20,21,22,23,24,25,26,27,28,29,30,31,32,33,34,35,36,37,38,39,40,41,42,43,44,45,46] 4 (@hL )] (by kernel_rfl)
theorem sty_a (t:TE) (i e:Int) (he:e≠0) (hc:CallC P G 17 [txt t] [] (.ret (int e)) []) (h:True):CallC P G 13 [txt t,int i] [] (AOut.ret (AV.tup [ils [],int e])) []:=by
 have _:=h
 exact CallC.out ((show CallC P G 13 [txt t,int i] [] (AOut.ret (AV.tup [nilS,int e])) [] from callC_of [kc [] (@hc ),kt (show (e != 0)=true from (congrArg Bool.not (decide_eq_false (by omega))))] (by kernel_rfl))) (Sub.tups ⟨(Sub.nil _),Sub.refl _,trivial⟩)
theorem sty_n (t:TE) (i:Int) (v:List IV) (hc:CallC P G 17 [txt t] [] (.ret (int 0)) []) (hs:CallC P G 36 [txt t] [] (.ret (sfn t v)) []) (hi:CallC P G 60 [.yl 0,.imm [ces t.cells,mks t.marks],.imm [ivA v]] (hS i) (.ret (.tup [])) (hS i)) (h:True):CallC P G 13 [txt t,int i] [] (AOut.ret (AV.tup [ils [],int 1])) []:=by
 have _:=h
 exact CallC.out ((show CallC P G 13 [txt t,int i] [] (AOut.ret (AV.tup [nilS,int 1])) [] from callC_of [kc [] (@hc ),kf (Eq.refl false),kc [] (@hs ),ko (Orc.range [0,1,2,6,7,8,9,10,11,12,13,14,15,16,17,18,19,20,21,22] 0 none AEx.normal [] []),kc [5,1,2,3] (@hi )] (by kernel_rfl))) (Sub.tups ⟨(Sub.nil _),Sub.refl _,trivial⟩)
theorem sty_r (t:TE) (i:Int) (v:List IV) (l:List Int) (hc:CallC P G 17 [txt t] [] (.ret (int 0)) []) (hs:CallC P G 36 [txt t] [] (.ret (sfn t v)) []) (hi:CallC P G 60 [.yl 0,.imm [ces t.cells,mks t.marks],.imm [ivA v]] (hS i) (.ret (.tup [])) (hD i l)) (h:True):CallC P G 13 [txt t,int i] [] (AOut.ret (AV.tup [ils l,int 0])) []:=by
 have _:=h
 exact callC_of [kc [] (@hc ),kf (Eq.refl false),kc [] (@hs ),ko (Orc.range [0,1,2,6,7,8,9,10,11,12,13,14,15,16,17,18,19,20,21,22] 0 none AEx.normal [] []),kc [5,1,2,3] (@hi )] (by kernel_rfl)
end Go.Tx


namespace Go.Tx
open Go Go.Am Go.Proofs Go.Seat
open Go.Sq (CE cel ces ida idv pid fX fiO OkRs chkE)
theorem stF_bit (t:TE) (i:Int):∀ n s,stF t i n s=bitF (fun s=>onF t.cells i (s:Int) false t.marks) n s
 | 0,_=>rfl
 | n+1,s=>by rw [stF,bitF,stF_bit t i n (s+1)]
theorem styV_len (t:TE) (i:Int):(styV t i).length≤16:=by unfold styV; rw [stF_bit]; exact bitF_len _ _ _
def styR (t:TE) (i:Int):List Int × Int:=if chkT t≠0 then ([],chkT t) else if i<0∨i≥(t.cells.length:Int) then ([],1) else (styV t i,0)
theorem iv_con {l:List CE} {m:MK} (h:isMk l m=true) (i:Int):((ivOf l m).f≤i∧i≤(ivOf l m).t)↔conB l m i=true:=by
 unfold isMk at h
 simp only [Bool.and_eq_true] at h
 obtain ⟨⟨⟨⟨⟨⟨h1,h2⟩,_⟩,_⟩,_⟩,_⟩,_⟩:=h
 obtain ⟨a,ha⟩:=Option.isSome_iff_exists.1 h1
 obtain ⟨b,hb⟩:=Option.isSome_iff_exists.1 h2
 have e1:ixP l m.frm=(a:Int):=by show ixV (fX (pid m.fd m.fs m.fa) l)=_; rw [ha]; rfl
 have e2:ixP l m.upto=(b:Int):=by show ixV (fX (pid m.td m.ts m.ta) l)=_; rw [hb]; rfl
 have e3:(ivOf l m).f=(a:Int):=by show (fiO (fX (pid m.fd m.fs m.fa) l)).1=_; rw [ha]; rfl
 have e4:(ivOf l m).t=(b:Int):=by show (fiO (fX (pid m.td m.ts m.ta) l)).1=_; rw [hb]; rfl
 rw [conB,e1,e2,e3,e4,Bool.and_eq_true,decide_eq_true_eq,decide_eq_true_eq]
theorem isMk_st {l:List CE} {m:MK} (h:isMk l m=true):0≤m.st∧m.st<16:=by
 unfold isMk at h
 simp only [Bool.and_eq_true,decide_eq_true_eq] at h
 omega
theorem stN_nat (l:List CE) (i:Int):∀ (ms:List MK) (n:Nat),(∀ m∈ms,isMk l m=true)→n<65536→∃ r:Nat,stN i (n:Int) (ms.map (ivOf l))=(r:Int)∧r<65536∧∀ s,s<16→r.testBit s=onF l i (s:Int) (n.testBit s) ms
 | [],n,_,hn=>⟨n,rfl,hn,fun _ _=>rfl⟩
 | m::ms,n,hm,hn=>by
  have hk:=hm m (by simp)
  have hst:=isMk_st hk
  obtain ⟨s0,hs0⟩:∃ s0:Nat,m.st=(s0:Int):=⟨m.st.toNat,by omega⟩
  rw [List.map_cons,stN]
  by_cases hc:conB l m i=true
  · rw [if_pos ((iv_con hk i).2 hc)]
    obtain ⟨r,k1,k2,k3⟩:=put_nat n s0 m.on hn (by omega)
    show ∃ r:Nat,stN i (putV (n:Int) m.st m.on) (ms.map (ivOf l))=(r:Int)∧_
    rw [hs0,k1]
    obtain ⟨r',j1,j2,j3⟩:=stN_nat l i ms r (fun x hx=>hm x (List.mem_cons_of_mem _ hx)) k2
    refine ⟨r',j1,j2,fun s hs=>?_⟩
    rw [j3 s hs,k3,onF]
    congr 1
    by_cases e:s0=s
    · subst e; rw [if_pos rfl,if_pos ⟨hs0,hc⟩]
    · rw [if_neg e,if_neg (fun h=>e (by have:=h.1; omega))]
  · rw [if_neg (fun h=>hc ((iv_con hk i).1 h))]
    obtain ⟨r',j1,j2,j3⟩:=stN_nat l i ms n (fun x hx=>hm x (List.mem_cons_of_mem _ hx)) hn
    refine ⟨r',j1,j2,fun s hs=>?_⟩
    rw [j3 s hs,onF,if_neg (fun h=>hc h.2)]
theorem set_is (t:TE) (i:Int) (h:Val t):∃ r:Nat,stN i 0 (ivsV t)=(r:Int)∧r<65536∧bitF r.testBit 16 0=styV t i:=by
 obtain ⟨r,h1,h2,h3⟩:=stN_nat t.cells i t.marks 0 h.marks.isM (by decide)
 refine ⟨r,h1,h2,?_⟩
 unfold styV
 rw [stF_bit]
 refine bitF_congr fun j _ hj=>?_
 rw [h3 j (by omega),Nat.zero_testBit]
theorem pi_loop (i:Int) (t:TE) (v:List IV) (n k:Nat) (hv:v.length≤1000000) (hst:∀ y∈v,0≤y.m.st):∀ d j x,v.length - j=d→j≤v.length→RunL P G none 4 (loopAt P 60 1) (piS i t v n k x j) (.exit 2) (piX i t v n k (stN (k:Int) x (v.drop j))):=by
 intro d
 induction d with
 | zero =>
  intro j x hd hj
  rw [List.drop_eq_nil_of_le (by omega)]
  exact pi_e i t v n k x j (by omega) trivial
 | succ d ih =>
  intro j x hd hj
  have hlt:j<v.length:=by omega
  have hy:v[j]? = some v[j]:=List.getElem?_eq_getElem hlt
  rw [List.drop_eq_getElem_cons hlt,stN]
  refine pi_n i t v n k x j v[j] (by omega) hv hy (hst _ (List.getElem_mem hlt)) _ _ ⟨fun h1=>⟨fun h2=>?_,fun h2=>?_⟩,fun h1=>?_⟩
  · rw [if_pos ⟨h1,h2⟩]; exact ih (j+1) _ (by omega) (by omega)
  · rw [if_neg (fun h=>h2 h.2)]; exact ih (j+1) _ (by omega) (by omega)
  · rw [if_neg (fun h=>h1 h.1)]; exact ih (j+1) _ (by omega) (by omega)
theorem ivs_st {t:TE} (h:Val t):∀ y∈ivsV t,0≤y.m.st:=fun y hy=>by
 obtain ⟨m,hm,rfl⟩:=List.mem_map.1 hy
 exact (isMk_st (h.marks.isM m hm)).1
theorem ou_loop (i:Int) (t:TE) (h:Val t) (hc:t.cells.length≤1000000) (hv:t.marks.length≤1000000):∀ d k,t.cells.length - k=d→k≤t.cells.length →
 ((i<(k:Int)∨i≥(t.cells.length:Int))→RunL P G none 4 (loopAt P 60 0) (ouS i t (ivsV t) t.cells.length k) (.exit 0) (ouX i)) ∧
 (((k:Int)≤i∧i<(t.cells.length:Int))→RunL P G none 4 (loopAt P 60 0) (ouS i t (ivsV t) t.cells.length k) .ret (ouR i (styV t i))):=by
 have hlv:(ivsV t).length≤1000000:=by unfold ivsV; rw [List.length_map]; exact hv
 intro d
 induction d with
 | zero=>intro k hd hk; exact ⟨fun _=>ou_e i t _ _ k (by omega) trivial,fun h=>by omega⟩
 | succ d ih =>
  intro k hd hk
  obtain ⟨n1,n2⟩:=ih (k+1) (by omega) (by omega)
  have hI:=pi_loop i t (ivsV t) t.cells.length k hlv (ivs_st h) _ 0 0 rfl (Nat.zero_le _)
  rw [List.drop_zero] at hI
  by_cases e:(k:Int)=i
  · obtain ⟨r,h1,h2,h3⟩:=set_is t (k:Int) h
    rw [h1] at hI
    refine ⟨fun hq=>by omega,fun _=>?_⟩
    have hl:=list_c r h2
    rw [h3] at hl
    rw [← e] at hI ⊢
    have hy:=ys_r (k:Int) (k:Int) (r:Int) (styV t (k:Int)) rfl hl false (hD (k:Int) (styV t (k:Int))++[.box [u32 (r:Int)]]) ⟨rfl,rfl⟩
    exact ou_r (k:Int) t _ _ k _ _ (by omega) hc hI hy trivial
  · have hy:=ys_n i (k:Int) (stN (k:Int) 0 (ivsV t)) e true (hS i++[.box [u32 (stN (k:Int) 0 (ivsV t))]]) ⟨rfl,rfl⟩
    exact ⟨fun hq=>ou_n i t _ _ k _ (by omega) hc hI hy _ _ (n1 (by omega)),fun hq=>ou_n i t _ _ k _ (by omega) hc hI hy _ _ (n2 (by omega))⟩
theorem styles_c (t:TE) (i:Int) (hl:LenT t) (hO:OkT t):CallC P G 13 [txt t,int i] [] (.ret (.tup [ils (styR t i).1,int (styR t i).2])) []:=by
 have hk:=check_c t hl hO
 have h1:=hl.cells
 have h2:=hl.marks
 unfold styR
 by_cases h0:chkT t=0
 · rw [if_neg (by simpa using h0)]
   rw [h0] at hk
   have hs:=styled_c t (by omega) (by omega)
   obtain ⟨o1,o2⟩:=ou_loop i t (chkT_iff.1 h0) (by omega) (by omega) _ 0 rfl (Nat.zero_le _)
   by_cases hi:i<0∨i≥(t.cells.length:Int)
   · rw [if_pos hi]
     exact sty_n t i _ hk hs (it_n i t _ (o1 (by omega)) trivial) trivial
   · rw [if_neg hi]
     exact sty_r t i _ _ hk hs (it_r i t _ _ (o2 (by omega)) trivial) trivial
 · rw [if_pos h0]; exact sty_a t i _ h0 hk trivial
end Go.Tx


namespace Go.Am
open Go
section
variable {P:Program} {G:Nat→Option (List AV)}
theorem frzArr_step {V:View} {b k j g sz:Nat} {xs:List (List AV)} {cells:List AV} {x y:AV} {z:List (List AV)} {H1:List AObj} {ps:List Prop} (hG:HeapRep G V) (hb:V.H[b]? = some (.arr g sz false xs)) (hb1:H1[b]? = some (.arr g sz false xs)) (hk:xs[k]? = some cells) (hj:cells[j]? = some x)
 (ha:evalFrz V.H x z=some (y,H1,ps)) (hps:AllP ps):∃ V':View,V'.w=V.w∧V'.H=H1.set b (.arr g sz false (xs.set k (cells.set j y)))∧Step V V'∧HeapRep G V':=by
 obtain ⟨t,c,h1,h2,h3,h4⟩:=hG.obj b _ hb
 have hkl:=(List.getElem?_eq_some_iff.1 hk).1
 have hjl:=(List.getElem?_eq_some_iff.1 hj).1
 have hcl:cells.length=sz:=h3 cells (List.mem_of_getElem? hk)
 have hjs:j<sz:=by omega
 have exk:xs.getD k []=cells:=by rw [List.getD_eq_getElem?_getD,hk]; rfl
 have ejx:cells.getD j .dead=x:=by rw [List.getD_eq_getElem?_getD,hj]; rfl
 obtain ⟨v0,hv0,hone,hx⟩:=h4 k j hkl hjs
 rw [exk,ejx] at hx
 obtain ⟨V1,k1,k2,k3,k4,k5⟩:=frz_sound ha hps hG hx
 have hlt:=(List.getElem?_eq_some_iff.1 hb).1
 have hρ:V1.ρ b=V.ρ b:=by
  have:=k3.obj b hlt
  unfold ObjStep at this
  rw [hb,k2,hb1] at this
  rcases this with h | ⟨_,_,h,_⟩
  · omega
  · exact h
 obtain ⟨t',c',o1,o2,o3,o4⟩:=k4.obj b _ (by rw [k2]; exact hb1)
 have hcc:c'=c:=by
  rw [hρ,k1,h1] at o1
  injection o1 with o1
  injection o1 with o1 o1'
  exact o1.symm
 subst hcc
 have hxl:(xs.set k (cells.set j y)).length=xs.length:=List.length_set
 obtain ⟨V2,l1,l2,l3,l4⟩:=step_set (obj:=.arr g sz false xs) (obj':=.arr g sz false (xs.set k (cells.set j y))) (w':=V1.w) k4 (by rw [k2]; exact hb1) rfl o1 o1 rfl (fun _ _=>rfl) rfl rfl rfl rfl ⟨rfl,rfl,rfl⟩ (fun V' hw hs=>by
  refine ⟨t',c',by rw [hw]; exact o1,by rw [hxl]; exact o2,fun q hq=>?_,fun k' j' hk' hj'=>?_⟩
  · rcases List.mem_or_eq_of_mem_set hq with h | h
    · exact o3 q h
    · rw [h,List.length_set]; exact hcl
  · rw [hxl] at hk'
    obtain ⟨v,hv,hv1,hr⟩:=o4 k' j' hk' hj'
    by_cases ek:k=k'
    · subst ek
      have e1:(xs.set k (cells.set j y)).getD k []=cells.set j y:=by rw [List.getD_eq_getElem?_getD,List.getElem?_set_self hk']; rfl
      rw [e1]
      by_cases ej:j=j'
      · subst ej
        have e2:(cells.set j y).getD j .dead=y:=by rw [List.getD_eq_getElem?_getD,List.getElem?_set_self hjl]; rfl
        rw [e2]
        rw [hv0] at hv
        cases hv
        exact ⟨v0,hv0,hone,k5.step hs⟩
      · have e2:(cells.set j y).getD j' .dead=(xs.getD k []).getD j' .dead:=by rw [exk,List.getD_eq_getElem?_getD,List.getD_eq_getElem?_getD,List.getElem?_set_ne ej]
        rw [e2]
        exact ⟨v,hv,hv1,hr.step hs⟩
    · have e1:(xs.set k (cells.set j y)).getD k' []=xs.getD k' []:=by rw [List.getD_eq_getElem?_getD,List.getD_eq_getElem?_getD,List.getElem?_set_ne ek]
      rw [e1]
      exact ⟨v,hv,hv1,hr.step hs⟩)
 exact ⟨V2,l1.trans k1,by rw [l2,k2],k3.trans l3,l4⟩
theorem subBox_step {V:View} {b j:Nat} {cells:List AV} {x y:AV} (hG:HeapRep G V) (hb:V.H[b]? = some (.box cells)) (hj:cells[j]? = some x) (hxy:Sub x y):∃ V':View,V'.w=V.w∧V'.H=V.H.set b (.box (cells.set j y))∧Step V V'∧HeapRep G V':=by
 obtain ⟨t,vs,h1,h2⟩:=hG.obj b _ hb
 have hjl:=(List.getElem?_eq_some_iff.1 hj).1
 have hx:Rep V x (vs.getD j undef):=by
  have:=h2.2 j hjl
  rwa [show cells.getD j .dead=x by rw [List.getD_eq_getElem?_getD,hj]; rfl] at this
 have hr:Reps V (cells.set j y) vs:=by
  have:=h2.set j (hxy V _ hx)
  have e:vs.set j (vs.getD j undef)=vs:=by
   apply List.ext_getElem?
   intro i
   rw [List.getElem?_set]
   split
   · rename_i e; subst e
     have:j<vs.length:=by rw [h2.1]; exact hjl
     rw [if_pos this,List.getD_eq_getElem?_getD,List.getElem?_eq_getElem this]; rfl
   · rfl
  rwa [e] at this
 obtain ⟨V2,l1,l2,l3,l4⟩:=step_set (obj:=.box cells) (obj':=.box (cells.set j y)) (w':=V.w) hG hb rfl h1 h1 rfl (fun _ _=>rfl) rfl rfl rfl rfl trivial (fun V' hw hs=>⟨t,vs,by rw [hw]; exact h1,hr.step hs⟩)
 exact ⟨V2,l1,l2,l3,l4⟩
theorem RunL.subBox {r:Option Nat} {n0:Nat} {c:Code} {s s':St} {ex:AEx} {b j:Nat} {cells:List AV} {x y:AV} (h:RunL P G r n0 c s ex s') (hb:s'.H[b]? = some (.box cells)) (hj:cells[j]? = some x) (hxy:Sub x y):RunL P G r n0 c s ex { env:=s'.env,H:=s'.H.set b (.box (cells.set j y)),defs:=s'.defs } :=
 fun V0 V a h0 k1 k2 k3=>LoopIn.mono (h V0 V a h0 k1 k2 k3) fun _ _ _ hE=>by
  obtain ⟨V1,rfl,l1,l2,l3,l4⟩:=hE
  obtain ⟨V2,a1,a2,a3,a4⟩:=subBox_step l2 (l3.H ▸ hb) hj hxy
  exact ⟨V2,a1,l1.trans a3,a4,⟨l3.env.step a3,by rw [a2,l3.H],l3.defs.step a3⟩,l4.step a3⟩
theorem subArr_step {V:View} {b k j g sz:Nat} {xs:List (List AV)} {cells:List AV} {x y:AV} (hG:HeapRep G V) (hb:V.H[b]? = some (.arr g sz false xs)) (hk:xs[k]? = some cells) (hj:cells[j]? = some x) (hxy:Sub x y) :
 ∃ V':View,V'.w=V.w∧V'.H=V.H.set b (.arr g sz false (xs.set k (cells.set j y)))∧Step V V'∧HeapRep G V':=by
 obtain ⟨t,c,h1,h2,h3,h4⟩:=hG.obj b _ hb
 have hkl:=(List.getElem?_eq_some_iff.1 hk).1
 have hjl:=(List.getElem?_eq_some_iff.1 hj).1
 have hcl:cells.length=sz:=h3 cells (List.mem_of_getElem? hk)
 have exk:xs.getD k []=cells:=by rw [List.getD_eq_getElem?_getD,hk]; rfl
 have ejx:cells.getD j .dead=x:=by rw [List.getD_eq_getElem?_getD,hj]; rfl
 have hxl:(xs.set k (cells.set j y)).length=xs.length:=List.length_set
 obtain ⟨V2,l1,l2,l3,l4⟩:=step_set (obj:=.arr g sz false xs) (obj':=.arr g sz false (xs.set k (cells.set j y))) (w':=V.w) hG hb rfl h1 h1 rfl (fun _ _=>rfl) rfl rfl rfl rfl ⟨rfl,rfl,rfl⟩ (fun V' hw hs=>by
  refine ⟨t,c,by rw [hw]; exact h1,by rw [hxl]; exact h2,fun q hq=>?_,fun k' j' hk' hj'=>?_⟩
  · rcases List.mem_or_eq_of_mem_set hq with h | h
    · exact h3 q h
    · rw [h,List.length_set]; exact hcl
  · rw [hxl] at hk'
    obtain ⟨v,hv,hv1,hr⟩:=h4 k' j' hk' hj'
    by_cases ek:k=k'
    · subst ek
      have e1:(xs.set k (cells.set j y)).getD k []=cells.set j y:=by rw [List.getD_eq_getElem?_getD,List.getElem?_set_self hk']; rfl
      rw [e1]
      by_cases ej:j=j'
      · subst ej
        have e2:(cells.set j y).getD j .dead=y:=by rw [List.getD_eq_getElem?_getD,List.getElem?_set_self hjl]; rfl
        rw [e2]
        rw [exk,ejx] at hr
        exact ⟨v,hv,hv1,(hxy _ _ hr).step hs⟩
      · have e2:(cells.set j y).getD j' .dead=(xs.getD k []).getD j' .dead:=by rw [exk,List.getD_eq_getElem?_getD,List.getD_eq_getElem?_getD,List.getElem?_set_ne ej]
        rw [e2]
        exact ⟨v,hv,hv1,hr.step hs⟩
    · have e1:(xs.set k (cells.set j y)).getD k' []=xs.getD k' []:=by rw [List.getD_eq_getElem?_getD,List.getD_eq_getElem?_getD,List.getElem?_set_ne ek]
      rw [e1]
      exact ⟨v,hv,hv1,hr.step hs⟩)
 exact ⟨V2,l1,l2,l3,l4⟩
theorem RunL.subArrPre {r:Option Nat} {n0:Nat} {c:Code} {s s':St} {ex:AEx} {b k j g sz:Nat} {xs:List (List AV)} {cells:List AV} {x y:AV} (hb:s.H[b]? = some (.arr g sz false xs)) (hk:xs[k]? = some cells) (hj:cells[j]? = some x) (hxy:Sub x y)
 (h:RunL P G r n0 c { env:=s.env,H:=s.H.set b (.arr g sz false (xs.set k (cells.set j y))),defs:=s.defs } ex s'):RunL P G r n0 c s ex s':=fun V0 V a h0 k1 k2 k3=>by
 obtain ⟨V2,a1,a2,a3,a4⟩:=subArr_step k2 (k3.H ▸ hb) hk hj hxy
 rw [← a1]
 exact h V0 V2 a h0 (k1.trans a3) a4 ⟨k3.env.step a3,by rw [a2,k3.H],k3.defs.step a3⟩
theorem set_last {α:Type} (l:List α) (a b:α) (n:Nat) (hn:n=l.length):(l++[a]).set n b=l++[b]:=by
 subst hn
 rw [List.set_append_right _ _ (Nat.le_refl _),Nat.sub_self]; rfl
theorem get_last {α:Type} (l:List α) (a:α) (n:Nat) (hn:n=l.length):(l++[a])[n]? = some a:=by
 subst hn
 simp
theorem RunL.frzArrPre {r:Option Nat} {n0:Nat} {c:Code} {s s':St} {ex:AEx} {b k j g sz:Nat} {xs:List (List AV)} {cells:List AV} {x y:AV} {z:List (List AV)} {H1:List AObj} {ps:List Prop} (hb:s.H[b]? = some (.arr g sz false xs)) (hb1:H1[b]? = some (.arr g sz false xs)) (hk:xs[k]? = some cells) (hj:cells[j]? = some x)
 (ha:evalFrz s.H x z=some (y,H1,ps)) (hps:AllP ps) (h:RunL P G r n0 c { env:=s.env,H:=H1.set b (.arr g sz false (xs.set k (cells.set j y))),defs:=s.defs } ex s'):RunL P G r n0 c s ex s':=fun V0 V a h0 k1 k2 k3=>by
 obtain ⟨V2,a1,a2,a3,a4⟩:=frzArr_step k2 (k3.H ▸ hb) hb1 hk hj (k3.H ▸ ha) hps
 rw [← a1]
 exact h V0 V2 a h0 (k1.trans a3) a4 ⟨k3.env.step a3,a2,k3.defs.step a3⟩
theorem RunL.renPre {r:Option Nat} {n0:Nat} {c:Code} {s s2 s':St} {ex:AEx} (σ:Nat→Nat) (hlow:∀ i,i<n0→σ i=i) (hn:n0≤s2.H.length) (hup:∀ i,n0≤i→i<s2.H.length→n0≤σ i) (hinj:∀ i j,i<s2.H.length→j<s2.H.length→σ i=σ j→i=j)
 (hobj:∀ i o,s2.H[i]? = some o→s.H[σ i]? = some (o.ren σ)) (hids:∀ (i:Nat) (o:AObj),s2.H[i]? = some o→o.idsLt s2.H.length) (henv:AV.renL σ s2.env=s.env) (hi:AV.idsLtL s2.H.length s2.env=true) (hd:s.defs=[]) (hd2:s2.defs=[]) (h:RunL P G r n0 c s2 ex s'):RunL P G r n0 c s ex s':=fun V0 V a h0 k1 k2 k3=>by
 have hVH:V.H=s.H:=k3.H
 let V':View:={ V with H:=s2.H,ρ:=fun i=>V.ρ (σ i) }
 have lk:Lk V' V σ:=⟨rfl,fun _=>Iff.rfl,fun _ _=>rfl,fun i o ho=>by rw [hVH]; exact hobj i o ho⟩
 have hst:Step V0 V':=by
  refine ⟨k1.os,k1.tape,k1.output,k1.size,k1.drawn,k1.keep,k1.data,by show _≤s2.H.length; omega,fun id hid=>?_,fun id hid=>?_⟩
  · show (id<V0.H.length∧V.ρ (σ id)=V0.ρ id)∨_≤V.ρ (σ id)
    have hid:id<s2.H.length:=hid
    by_cases hlt:id<n0
    · rw [hlow id hlt]
      refine k1.fresh id ?_
      have:=(List.getElem?_eq_some_iff.1 (hobj id _ (List.getElem?_eq_getElem hid))).1
      rw [hlow id hlt] at this
      rw [hVH]; exact this
    · right
      have hs:=(List.getElem?_eq_some_iff.1 (hobj id _ (List.getElem?_eq_getElem hid))).1
      rcases k1.fresh (σ id) (by rw [hVH]; exact hs) with ⟨q1,_⟩ | q
      · have:=hup id (by omega) hid; omega
      · exact q
  · have q:=k1.obj id hid
    have hlt:id<n0:=by omega
    have hid2:id<s2.H.length:=by omega
    have hr:=hobj id _ (List.getElem?_eq_getElem hid2)
    rw [hlow id hlt] at hr
    unfold ObjStep at q ⊢
    rw [hVH,hr] at q
    show match V0.H[id]?,s2.H[id]? with | _,_=>_
    rw [List.getElem?_eq_getElem hid2]
    have hρ:V'.ρ id=V.ρ id:=by show V.ρ (σ id)=V.ρ id; rw [hlow id hlt]
    cases hO:V0.H[id]? with
    | none=>rw [hO] at q; exact q.elim
    | some o =>
     rw [hO] at q
     generalize s2.H[id]=o2 at q
     cases o<;>cases o2<;>simp only [AObj.ren] at q⊢<;> first
      | exact q
      | (rw [hρ]; exact q)
 have hG':HeapRep G V':=HeapRep.bwd lk k2 hids hinj
 refine h V0 V' a h0 hst hG' ⟨Reps.bwd lk hi ?_,rfl,?_⟩
 · rw [henv]; exact k3.env
 · have:=k3.defs
   rw [hd] at this
   rw [hd2]
   generalize a.defers=dl at this
   cases dl with
   | nil=>exact .nil
   | cons d l=>cases this
end
theorem ren_free (σ:Nat→Nat) {xs:List (List AV)} (h:∀ c∈xs,AV.idsLtL 0 c=true):xs.map (AV.renL σ)=xs:=by
 conv=>rhs; rw [← List.map_id xs]
 exact List.map_congr_left fun c hc=>renL_low (p:=0) (fun i hi=>absurd hi (Nat.not_lt_zero _)) c (h c hc)
end Go.Am


namespace Go.Cdc
open Go Go.Am Go.Proofs Go.Seat
inductive CV where
 | mk (k n:Int) (s:ByteArray) (l:List CV)
instance:Inhabited CV:=⟨.mk 0 0 .empty []⟩
def CV.k:CV→Int | .mk k _ _ _=>k
def CV.n:CV→Int | .mk _ n _ _=>n
def CV.s:CV→ByteArray | .mk _ _ s _=>s
def CV.l:CV→List CV | .mk _ _ _ l=>l
mutual
def CV.cells:CV→List AV
 | .mk k n s l=>[int k,int n,str s,.sl 4 false (encL l)]
def encL:List CV→List (List AV)
 | []=>[]
 | v::l=>v.cells::encL l
end
def enc (v:CV):List AV:=[int v.k,int v.n,str v.s,.sl 4 false (encL v.l)]
theorem cells_eq (v:CV):v.cells=enc v:=by cases v; simp [CV.cells,enc,CV.k,CV.n,CV.s,CV.l]
theorem encL_map:∀ l:List CV,encL l=l.map enc
 | []=>by simp [encL]
 | v::l=>by simp [encL,encL_map l,cells_eq]
def val (v:CV):AV:=.agg (enc v)
theorem encL_length (l:List CV):(encL l).length=l.length:=by simp [encL_map]
theorem encL_append (a b:List CV):encL a++encL b=encL (a++b):=by simp [encL_map]
theorem encL_take (v:List CV) (n:Nat):List.take n (encL v)=encL (v.take n):=by simp [encL_map]
theorem encL_pure (v:List CV):∀ c∈encL v,c.all AV.pureB=true:=by
 intro c hc
 rw [encL_map] at hc
 obtain ⟨d,_,rfl⟩:=List.mem_map.1 hc
 rfl
theorem encL_ids (v:List CV):∀ c∈encL v,AV.idsInL [] c=true:=by
 intro c hc
 rw [encL_map] at hc
 obtain ⟨d,_,rfl⟩:=List.mem_map.1 hc
 rfl
theorem encL_all (v:List CV):List.take v.length (List.drop 0 (encL v))=encL v:=by rw [← encL_length v]; simp
theorem str_eq (a b:ByteArray):(ByteArray.toList a == ByteArray.toList b)=decide (a=b):=by
 rw [ByteArray.toList_eq,ByteArray.toList_eq]
 by_cases h:a=b
 · subst h; simp
 · rw [decide_eq_false h]
   refine beq_eq_false_iff_ne.2 fun e=>h (ByteArray.ext (Array.toList_inj.1 e))
abbrev vmk (k n:Int) (s:ByteArray) (l:List CV):AV:=.agg [int k,int n,str s,.sl 4 false (encL l)]
theorem val_mk (k n:Int) (s:ByteArray) (l:List CV):val (.mk k n s l)=vmk k n s l:=rfl
abbrev u8 (c:UInt8):AV:=.lit (.int .u8 c.toNat)
abbrev u64 (n:Nat):AV:=.lit (.int .u64 n)
end Go.Cdc


namespace Go.Tx
open Go Go.Am Go.Proofs Go.Seat
open Go.Sq (CE cel ces ida idv pid fX fiO OkRs chkE)
open Go.Cdc (CV encL)
def iV (x:Int):CV:=.mk 1 x ByteArray.empty []
def tV (s:ByteArray):CV:=.mk 2 0 s []
def lV (l:List CV):CV:=.mk 3 0 ByteArray.empty l
abbrev pairC (s:ByteArray) (ls:List Int):List (List AV):=[[int 2,int 0,str s,nilS],[int 3,int 0,str ByteArray.empty,.sl 4 false (encL (ls.map iV))]]
noncomputable def jrR:AObj:=.rng .ready none (slots 87 [(1,.ptr 1 0),(2,.ptr 2 0),(5,.ptr 3 0)]) #[22,23] (asgAt P 15 0) (rbodyAt P 15 0)
noncomputable def hA (t:TE) (x:Int):List AObj:=[jrR,sbT t,.box [int 3,int 0,str ByteArray.empty,nilS],.box [u32 x]]
noncomputable def hB (t:TE) (x:Int) (g:Nat) (rs:List CV) (s:ByteArray) (ls:List Int):List AObj:=[jrR,sbT t,.box [int 3,int 0,str ByteArray.empty,.own 4 g 0 (rs.length+1)],.box [u32 x],.arr g 4 false (encL rs++[[int 3,int 0,str ByteArray.empty,.own 5 0 0 2]]),.arr 0 4 false (pairC s ls)]
noncomputable def hC (t:TE) (x:Int) (g:Nat) (rs:List CV):List AObj:=[jrR,sbT t,.box [int 3,int 0,str ByteArray.empty,.own 4 g 0 rs.length],.box [u32 x],.arr g 4 false (encL rs)]
theorem ya_A (t:TE) (x y:Int) (k:Nat) (c:CE) (hx:t.cells[k]? = some c) (hg:c.gn=true) (b:Bool) (H':List AObj) (h:(true=b)∧([jrR,AObj.box [AV.sl 9 false (Sq.encs (TE.cells t)),AV.sl 11 false (encs (TE.marks t))],AObj.box [int 3,int 0,str ByteArray.empty,nilS],AObj.box [AV.lit (Value.int IntKind.u32 x)],AObj.box [AV.lit (Value.int IntKind.u32 y)]]=H')):YieldC P G 0 [int (↑k:Int),u32 y] (hA t x++[AObj.box [u32 y]]) b H':=by
 obtain ⟨e1,e2⟩:=h
 exact YieldC.to ((show YieldC P G 0 [int (↑k:Int),u32 y] (hA t x++[AObj.box [u32 y]]) true [jrR,AObj.box [AV.sl 9 false (Sq.encs (TE.cells t)),AV.sl 11 false (encs (TE.marks t))],AObj.box [int 3,int 0,str ByteArray.empty,nilS],AObj.box [AV.lit (Value.int IntKind.u32 x)],AObj.box [AV.lit (Value.int IntKind.u32 y)]] from yieldC_of (fun _=>[ko (Orc.elem (Sq.enc c)),kp (show (0:Int)≤(↑k:Int)∧(Sq.encs (TE.cells t))[Int.toNat (↑k:Int)]? = some (Sq.enc c) from (el_nat hx)),kt hg]) (fun _=>by kernel_rfl))) e1 e2
theorem ya_B (t:TE) (x y:Int) (g:Nat) (rs:List CV) (s:ByteArray) (ls:List Int) (k:Nat) (c:CE) (hx:t.cells[k]? = some c) (hg:c.gn=true) (b:Bool) (H':List AObj) (h:((∀ (x_1:List AV),x_1∈pairC s ls→AV.idsLtL (List.length (hB t x g rs s ls++[AObj.box [u32 y]])) x_1=true)∧(true=b)∧([jrR,AObj.box [AV.sl 9 false (Sq.encs (TE.cells t)),AV.sl 11 false (encs (TE.marks t))],AObj.box [int 3,int 0,str ByteArray.empty,AV.own 4 g 0 (List.length rs+1)],AObj.box [AV.lit (Value.int IntKind.u32 x)],AObj.arr g 4 false (encL rs++[[int 3,int 0,str ByteArray.empty,AV.own 5 0 0 2]]),AObj.arr 0 4 false [[int 2,int 0,str s,nilS],[int 3,int 0,str ByteArray.empty,AV.sl 4 false (encL (List.map iV ls))]],AObj.box [AV.lit (Value.int IntKind.u32 y)]]=H'))):YieldC P G 0 [int (↑k:Int),u32 y] (hB t x g rs s ls++[AObj.box [u32 y]]) b H':=by
 obtain ⟨o1,h⟩:=h
 obtain ⟨e1,e2⟩:=h
 exact YieldC.to ((show YieldC P G 0 [int (↑k:Int),u32 y] (hB t x g rs s ls++[AObj.box [u32 y]]) true [jrR,AObj.box [AV.sl 9 false (Sq.encs (TE.cells t)),AV.sl 11 false (encs (TE.marks t))],AObj.box [int 3,int 0,str ByteArray.empty,AV.own 4 g 0 (List.length rs+1)],AObj.box [AV.lit (Value.int IntKind.u32 x)],AObj.arr g 4 false (encL rs++[[int 3,int 0,str ByteArray.empty,AV.own 5 0 0 2]]),AObj.arr 0 4 false [[int 2,int 0,str s,nilS],[int 3,int 0,str ByteArray.empty,AV.sl 4 false (encL (List.map iV ls))]],AObj.box [AV.lit (Value.int IntKind.u32 y)]] from yieldC_of (fun _=>[ko (Orc.elem (Sq.enc c)),kp (show (0:Int)≤(↑k:Int)∧(Sq.encs (TE.cells t))[Int.toNat (↑k:Int)]? = some (Sq.enc c) from (el_nat hx)),kt hg,kp (show ∀ (x_1:List AV),x_1∈encL rs++[[int 3,int 0,str ByteArray.empty,AV.own 5 0 0 2]]→AV.idsLtL (List.length (hB t x g rs s ls++[AObj.box [u32 y]])) x_1=true from (by exact (Am.allm_append (Am.ids_lt (Go.Cdc.encL_ids _) _) (Am.allm_cons rfl Am.allm_nil)))),kp o1]) (fun _=>by kernel_rfl))) e1 e2
theorem yc_B (t:TE) (x y:Int) (g:Nat) (rs:List CV) (s:ByteArray) (ls:List Int) (k:Nat) (c:CE) (hr:rs.length≤1000000) (hx:t.cells[k]? = some c) (hg:c.gn=false) (he:y=x) (hs:s.size+c.vl.size≤9223372036854775807) (hL:(encL rs++[[int 3,int 0,str ByteArray.empty,.own 5 0 0 2]])[0+Int.toNat (((rs.length+1:Nat):Int) - 1)]? = some [int 3,int 0,str ByteArray.empty,.own 5 0 0 2]) (b:Bool) (H':List AObj) (h:((∀ (x_1:List AV),x_1∈List.set (pairC s ls) (0+Int.toNat 0) (splice [int 2,int 0,str s,nilS] (0+Field.offset #[Field.mk "Kind" 3 0 false "" "" 0,Field.mk "N" 3 1 false "" "" 8,Field.mk "S" 9 2 false "" "" 16,Field.mk "L" 32 3 false "" "" 32][2]) [str (s++CE.vl c)])→AV.idsLtL (List.length (hB t x g rs s ls++[AObj.box [u32 y]])) x_1=true)∧(true=b)∧([jrR,AObj.box [AV.sl 9 false (Sq.encs (TE.cells t)),AV.sl 11 false (encs (TE.marks t))],AObj.box [int 3,int 0,str ByteArray.empty,AV.own 4 g 0 (List.length rs+1)],AObj.box [AV.lit (Value.int IntKind.u32 x)],AObj.arr g 4 false (encL rs++[[int 3,int 0,str ByteArray.empty,AV.own 5 0 0 2]]),AObj.arr 0 4 false [[int 2,int 0,str (s++CE.vl c),nilS],[int 3,int 0,str ByteArray.empty,AV.sl 4 false (encL (List.map iV ls))]],AObj.box [AV.lit (Value.int IntKind.u32 y)]]=H'))):YieldC P G 0 [int (↑k:Int),u32 y] (hB t x g rs s ls++[AObj.box [u32 y]]) b H':=by
 have hz1:g=g:=(rfl)
 have hz6:0=0:=(rfl)
 have hz7:(0:Int)≤(0:Int)∧(0:Int)<(2:Int):=(by omega)
 have hz8:(pairC s ls)[0+Int.toNat 0]? = some [int 2,int 0,str s,nilS]:=(rfl)
 obtain ⟨o3,h⟩:=h
 obtain ⟨e1,e2⟩:=h
 exact YieldC.to ((show YieldC P G 0 [int (↑k:Int),u32 y] (hB t x g rs s ls++[AObj.box [u32 y]]) true [jrR,AObj.box [AV.sl 9 false (Sq.encs (TE.cells t)),AV.sl 11 false (encs (TE.marks t))],AObj.box [int 3,int 0,str ByteArray.empty,AV.own 4 g 0 (List.length rs+1)],AObj.box [AV.lit (Value.int IntKind.u32 x)],AObj.arr g 4 false (encL rs++[[int 3,int 0,str ByteArray.empty,AV.own 5 0 0 2]]),AObj.arr 0 4 false [[int 2,int 0,str (s++CE.vl c),nilS],[int 3,int 0,str ByteArray.empty,AV.sl 4 false (encL (List.map iV ls))]],AObj.box [AV.lit (Value.int IntKind.u32 y)]] from yieldC_of (fun _=>[ko (Orc.elem (Sq.enc c)),kp (show (0:Int)≤(↑k:Int)∧(Sq.encs (TE.cells t))[Int.toNat (↑k:Int)]? = some (Sq.enc c) from (el_nat hx)),kf hg,kp hz1,kt (show decide ((↑(List.length rs+1):Int) > (0:Int))=true from (decide_eq_true (by omega))),kt (show (y == x)=true from (decide_eq_true (by omega))),kv 44 (show Am.Sub (int (IntKind.wrap IntKind.i64 ((↑(List.length rs+1):Int) - 1))) (int ((↑(List.length rs+1):Int) - 1)) from (Sub.of_wrap (by omega) (by omega) rfl)),ko (Orc.elem [int 3,int 0,str ByteArray.empty,AV.own 5 0 0 2]),ko (Orc.elem [int 2,int 0,str s,nilS]),ko (Orc.elem [int 2,int 0,str s,nilS]),kp hz1,kp (show (0:Int)≤(↑(List.length rs+1):Int) - 1∧(↑(List.length rs+1):Int) - 1<(↑(List.length rs+1):Int) from (by omega)),kp hz1,kp hz1,kp hL,kp hz6,kp hz7,kp hz6,kp hz6,kp hz8,kp (show (↑(ByteArray.size s+ByteArray.size (CE.vl c)):Int)≤(9223372036854775807:Int) from (by omega)),kp hz6,kp hz7,kp hz6,kp hz6,kp hz8,kp (show ∀ (x_1:List AV),x_1∈encL rs++[[int 3,int 0,str ByteArray.empty,AV.own 5 0 0 2]]→AV.idsLtL (List.length (hB t x g rs s ls++[AObj.box [u32 y]])) x_1=true from (by exact (Am.allm_append (Am.ids_lt (Go.Cdc.encL_ids _) _) (Am.allm_cons rfl Am.allm_nil)))),kp o3]) (fun _=>by kernel_rfl))) e1 e2
noncomputable def inS (t:TE) (y:Int) (Hy:List AObj) (c:CE) (l:List Int) (L:AV) (k:Nat) (K:List AObj) (cid sid:Nat):St:={ env:=slots 87 [(2,.ptr 2 0),(5,.ptr 3 0),(7,u32 y),(8,.ptr cid 0),(10,.ptr sid 0),(58,ils l),(59,int l.length),(60,int k)],H:=Hy++[.box (Sq.enc c),.box [int 3,int 0,str ByteArray.empty,L]]++K }
noncomputable def jrU:AObj:=.rng .busy none (slots 87 [(1,.ptr 1 0),(2,.ptr 2 0),(5,.ptr 3 0)]) #[22,23] (asgAt P 15 0) (rbodyAt P 15 0)
noncomputable def uA (t:TE) (x y:Int):List AObj:=[jrU,sbT t,.box [int 3,int 0,str ByteArray.empty,nilS],.box [u32 x],.box [u32 y]]
noncomputable def uC (t:TE) (x:Int) (g:Nat) (rs:List CV) (y:Int):List AObj:=[jrU,sbT t,.box [int 3,int 0,str ByteArray.empty,.own 4 g 0 rs.length],.box [u32 x],.arr g 4 false (encL rs),.box [u32 y]]
theorem inA_0 (t:TE) (x y:Int) (c:CE) (l:List Int) (v:Int) (r:Option Nat) (hx:l[0]? = some v) (hl:l.length≤16) (ex:AEx) (s':St) (h:((((0:Int)<(↑(List.length l):Int))→RunL P G r 5 (loopAt P 15 0) (St.mk (slots 87 [(2,AV.ptr 2 0),(5,AV.ptr 3 0),(7,AV.lit (Value.int IntKind.u32 y)),(8,AV.ptr 5 0),(10,AV.ptr 6 0),(58,AV.sl 1 false (Vec.ints l)),(59,int (↑(List.length l):Int)),(60,int 1)]) [jrU,AObj.box [AV.sl 9 false (Sq.encs (TE.cells t)),AV.sl 11 false (encs (TE.marks t))],AObj.box [int 3,int 0,str ByteArray.empty,nilS],AObj.box [AV.lit (Value.int IntKind.u32 x)],AObj.box [AV.lit (Value.int IntKind.u32 y)],AObj.box [int (CE.dv c),int (CE.sq c),int (CE.at' c),int (CE.ad c),int (CE.as' c),int (CE.aa c),int (CE.tm c),str (CE.vl c),Am.bool (CE.gn c)],AObj.box [int 3,int 0,str ByteArray.empty,AV.own 7 0 0 1],AObj.arr 0 4 false [[int 1,int v,str (ByteArray.mk #[]),nilS]]] []) ex s')∧((¬(0:Int)<(↑(List.length l):Int))→(AEx.exit 2=ex)∧(St.mk (slots 87 [(2,AV.ptr 2 0),(5,AV.ptr 3 0),(7,AV.lit (Value.int IntKind.u32 y)),(8,AV.ptr 5 0),(10,AV.ptr 6 0)]) [jrU,AObj.box [AV.sl 9 false (Sq.encs (TE.cells t)),AV.sl 11 false (encs (TE.marks t))],AObj.box [int 3,int 0,str ByteArray.empty,nilS],AObj.box [AV.lit (Value.int IntKind.u32 x)],AObj.box [AV.lit (Value.int IntKind.u32 y)],AObj.box [int (CE.dv c),int (CE.sq c),int (CE.at' c),int (CE.ad c),int (CE.as' c),int (CE.aa c),int (CE.tm c),str (CE.vl c),Am.bool (CE.gn c)],AObj.box [int 3,int 0,str ByteArray.empty,nilS]] []=s')))):RunL P G r 5 (loopAt P 15 0) (inS t y (uA t x y) c l nilS 0 [] 5 6) ex s':=by
 by_cases c1:((0:Int)<(↑(List.length l):Int))
 · have h:=h.1 c1
   exact loop_next [kt (decide_eq_true c1),ko (Orc.elem (Vec.enc1 v)),kp (show (0:Int)≤(0:Int)∧(Vec.ints l)[Int.toNat (↑0:Int)]? = some (Vec.enc1 v) from (el_nat hx)),kp (show [[int 1,int v,str (ByteArray.mk #[]),nilS]]≠[] from (by simp)),kp (show 56≤140737488355328 from (by omega))] (others 87 [2,5,7,8,10,58,59,60]) 8 h (by kernel_rfl)
 · have h:=h.2 c1
   obtain ⟨eX,eS⟩:=h
   exact RunL.to ((show RunL P G r 5 (loopAt P 15 0) (inS t y (uA t x y) c l nilS 0 [] 5 6) (AEx.exit 2) (St.mk (slots 87 [(2,AV.ptr 2 0),(5,AV.ptr 3 0),(7,AV.lit (Value.int IntKind.u32 y)),(8,AV.ptr 5 0),(10,AV.ptr 6 0)]) [jrU,AObj.box [AV.sl 9 false (Sq.encs (TE.cells t)),AV.sl 11 false (encs (TE.marks t))],AObj.box [int 3,int 0,str ByteArray.empty,nilS],AObj.box [AV.lit (Value.int IntKind.u32 x)],AObj.box [AV.lit (Value.int IntKind.u32 y)],AObj.box [int (CE.dv c),int (CE.sq c),int (CE.at' c),int (CE.ad c),int (CE.as' c),int (CE.aa c),int (CE.tm c),str (CE.vl c),Am.bool (CE.gn c)],AObj.box [int 3,int 0,str ByteArray.empty,nilS]] []) from loop_exit [kf (decide_eq_false c1)] (others 87 [2,5,7,8,10]) 7 (by kernel_rfl))) eX (SubS.of_eq eS)
theorem inA_n (t:TE) (x y:Int) (c:CE) (l:List Int) (v:Int) (r:Option Nat) (k g:Nat) (z:List CV) (hz:z.length≤16) (hx:l[k]? = some v) (hl:l.length≤16) (ex:AEx) (s':St) (h:((((↑k:Int)<(↑(List.length l):Int))→RunL P G r 5 (loopAt P 15 0) (St.mk (slots 87 [(2,AV.ptr 2 0),(5,AV.ptr 3 0),(7,AV.lit (Value.int IntKind.u32 y)),(8,AV.ptr 5 0),(10,AV.ptr 6 0),(58,AV.sl 1 false (Vec.ints l)),(59,int (↑(List.length l):Int)),(60,int (↑(k+1):Int))]) [jrU,AObj.box [AV.sl 9 false (Sq.encs (TE.cells t)),AV.sl 11 false (encs (TE.marks t))],AObj.box [int 3,int 0,str ByteArray.empty,nilS],AObj.box [AV.lit (Value.int IntKind.u32 x)],AObj.box [AV.lit (Value.int IntKind.u32 y)],AObj.box [int (CE.dv c),int (CE.sq c),int (CE.at' c),int (CE.ad c),int (CE.as' c),int (CE.aa c),int (CE.tm c),str (CE.vl c),Am.bool (CE.gn c)],AObj.box [int 3,int 0,str ByteArray.empty,AV.own 7 (g+1) 0 (List.length z+1)],AObj.arr (g+1) 4 false (encL z++[[int 1,int v,str (ByteArray.mk #[]),nilS]])] []) ex s')∧((¬(↑k:Int)<(↑(List.length l):Int))→(AEx.exit 2=ex)∧(St.mk (slots 87 [(2,AV.ptr 2 0),(5,AV.ptr 3 0),(7,AV.lit (Value.int IntKind.u32 y)),(8,AV.ptr 5 0),(10,AV.ptr 6 0)]) [jrU,AObj.box [AV.sl 9 false (Sq.encs (TE.cells t)),AV.sl 11 false (encs (TE.marks t))],AObj.box [int 3,int 0,str ByteArray.empty,nilS],AObj.box [AV.lit (Value.int IntKind.u32 x)],AObj.box [AV.lit (Value.int IntKind.u32 y)],AObj.box [int (CE.dv c),int (CE.sq c),int (CE.at' c),int (CE.ad c),int (CE.as' c),int (CE.aa c),int (CE.tm c),str (CE.vl c),Am.bool (CE.gn c)],AObj.box [int 3,int 0,str ByteArray.empty,AV.own 7 g 0 (List.length z)],AObj.arr g 4 false (encL z)] []=s')))):RunL P G r 5 (loopAt P 15 0) (inS t y (uA t x y) c l (AV.own 7 g 0 (List.length z)) k [AObj.arr g 4 false (encL z)] 5 6) ex s':=by
 by_cases c1:((↑k:Int)<(↑(List.length l):Int))
 · have h:=h.1 c1
   exact loop_next [kt (decide_eq_true c1),ko (Orc.elem (Vec.enc1 v)),kp (show (0:Int)≤(↑k:Int)∧(Vec.ints l)[Int.toNat (↑k:Int)]? = some (Vec.enc1 v) from (el_nat hx)),kp (show g=g from (rfl)),kp (show List.length z=List.length (encL z) from ((Go.Cdc.encL_length _).symm)),kp (show (List.length z+1) * 56≤140737488355328 from (by omega)),kv 71 (show Am.Sub (int (IntKind.wrap IntKind.i64 ((↑k:Int)+1))) (int (↑(k+1):Int)) from (Sub.of_wrap (by omega) (by omega) (by omega)))] (others 87 [2,5,7,8,10,58,59,60]) 8 h (by kernel_rfl)
 · have h:=h.2 c1
   obtain ⟨eX,eS⟩:=h
   exact RunL.to ((show RunL P G r 5 (loopAt P 15 0) (inS t y (uA t x y) c l (AV.own 7 g 0 (List.length z)) k [AObj.arr g 4 false (encL z)] 5 6) (AEx.exit 2) (St.mk (slots 87 [(2,AV.ptr 2 0),(5,AV.ptr 3 0),(7,AV.lit (Value.int IntKind.u32 y)),(8,AV.ptr 5 0),(10,AV.ptr 6 0)]) [jrU,AObj.box [AV.sl 9 false (Sq.encs (TE.cells t)),AV.sl 11 false (encs (TE.marks t))],AObj.box [int 3,int 0,str ByteArray.empty,nilS],AObj.box [AV.lit (Value.int IntKind.u32 x)],AObj.box [AV.lit (Value.int IntKind.u32 y)],AObj.box [int (CE.dv c),int (CE.sq c),int (CE.at' c),int (CE.ad c),int (CE.as' c),int (CE.aa c),int (CE.tm c),str (CE.vl c),Am.bool (CE.gn c)],AObj.box [int 3,int 0,str ByteArray.empty,AV.own 7 g 0 (List.length z)],AObj.arr g 4 false (encL z)] []) from loop_exit [kf (decide_eq_false c1)] (others 87 [2,5,7,8,10]) 8 (by kernel_rfl))) eX (SubS.of_eq eS)
noncomputable def inX (y:Int) (Hy:List AObj) (c:CE) (l:List Int) (cid sid:Nat):St:={ env:=slots 87 [(2,.ptr 2 0),(5,.ptr 3 0),(7,u32 y),(8,.ptr cid 0),(10,.ptr sid 0)],H:=Hy++[.box (Sq.enc c),.box [int 3,int 0,str ByteArray.empty,.sl 4 false (encL (l.map iV))]] }
theorem yb_A (t:TE) (x y:Int) (l:List Int) (k:Nat) (c:CE) (hx:t.cells[k]? = some c) (hg:c.gn=false) (hl:l.length≤16) (hls:CallC P G 37 [u32 y] [] (.ret (ils l)) []) (hI:∀ r,RunL P G r 5 (loopAt P 15 0) (inS t y (uA t x y) c l nilS 0 [] 5 6) (.exit 2) (inX y (uA t x y) c l 5 6)) (b:Bool) (H':List AObj) (h:(true=b)∧([jrR,AObj.box [AV.sl 9 false (Sq.encs (TE.cells t)),AV.sl 11 false (encs (TE.marks t))],AObj.box [int 3,int 0,str ByteArray.empty,AV.own 8 0 0 1],AObj.box [AV.lit (Value.int IntKind.u32 y)],AObj.box [AV.lit (Value.int IntKind.u32 y)],AObj.box [int (CE.dv c),int (CE.sq c),int (CE.at' c),int (CE.ad c),int (CE.as' c),int (CE.aa c),int (CE.tm c),str (CE.vl c),Am.bool (CE.gn c)],AObj.box [int 3,int 0,str ByteArray.empty,AV.sl 4 false (encL (List.map iV l))],AObj.arr 0 4 false [[int 2,int 0,str (CE.vl c),nilS],[int 3,int 0,str ByteArray.empty,AV.sl 4 false (encL (List.map iV l))]],AObj.arr 0 4 false [[int 3,int 0,str (ByteArray.mk #[]),AV.own 7 0 0 2]]]=H')):YieldC P G 0 [int (↑k:Int),u32 y] (hA t x++[AObj.box [u32 y]]) b H':=by
 have hz5:0=0:=(rfl)
 obtain ⟨e1,e2⟩:=h
 exact YieldC.to ((show YieldC P G 0 [int (↑k:Int),u32 y] (hA t x++[AObj.box [u32 y]]) true [jrR,AObj.box [AV.sl 9 false (Sq.encs (TE.cells t)),AV.sl 11 false (encs (TE.marks t))],AObj.box [int 3,int 0,str ByteArray.empty,AV.own 8 0 0 1],AObj.box [AV.lit (Value.int IntKind.u32 y)],AObj.box [AV.lit (Value.int IntKind.u32 y)],AObj.box [int (CE.dv c),int (CE.sq c),int (CE.at' c),int (CE.ad c),int (CE.as' c),int (CE.aa c),int (CE.tm c),str (CE.vl c),Am.bool (CE.gn c)],AObj.box [int 3,int 0,str ByteArray.empty,AV.sl 4 false (encL (List.map iV l))],AObj.arr 0 4 false [[int 2,int 0,str (CE.vl c),nilS],[int 3,int 0,str ByteArray.empty,AV.sl 4 false (encL (List.map iV l))]],AObj.arr 0 4 false [[int 3,int 0,str (ByteArray.mk #[]),AV.own 7 0 0 2]]] from yieldC_of (fun r=>[ko (Orc.elem (Sq.enc c)),kp (show (0:Int)≤(↑k:Int)∧(Sq.encs (TE.cells t))[Int.toNat (↑k:Int)]? = some (Sq.enc c) from (el_nat hx)),kf hg,kf (Eq.refl false),kf (Eq.refl false),kc [] (@hls ),kv 59 (show Am.Sub (int (↑(List.length (Vec.ints l)):Int)) (int (↑(List.length l):Int)) from (Sub.of_eq (by simp only [Go.Vec.ints_length]))),kl [1,6,9,22,23,24,25,26,27,28,29,30,31,32,33,34,35,36,37,38,39,40,56,57] 7 (@hI (r)),ko (Orc.own),ko (Orc.elem [int 0,int 0,str (ByteArray.mk #[]),nilS]),ko (Orc.emp),kp (show [[int 0,int 0,str (ByteArray.mk #[]),nilS]]≠[] from (by simp)),kp (show 56≤140737488355328 from (by omega)),kp hz5,kp (show (0:Int)≤(0:Int)∧(0:Int)<(1:Int) from (by omega)),kp hz5,kp (show (chunks (TypeInfo.size (Tables.types (Program.toTables P))[34]) 1 (splice (zerosA (List.map AV.lit (Array.toList (Value.cells (Value.agg #[Value.int IntKind.i64 0,Value.int IntKind.i64 0,Value.string (ByteArray.mk #[]),Value.slice none 0 0])))) (1 * TypeInfo.size (Tables.types (Program.toTables P))[34])) (0 * TypeInfo.size (Tables.types (Program.toTables P))[34]) (List.map AV.lit (Array.toList #[Value.int IntKind.i64 0,Value.int IntKind.i64 0,Value.string (ByteArray.mk #[]),Value.slice none 0 0]))))[0+Int.toNat (↑0:Int)]? = some [int 0,int 0,str (ByteArray.mk #[]),nilS] from (rfl))]) (fun _=>by kernel_rfl))) e1 e2
theorem yd_C (t:TE) (x y:Int) (g:Nat) (rs:List CV) (l:List Int) (k:Nat) (c:CE) (hr:rs.length≤1000000) (hr0:0<rs.length) (hx:t.cells[k]? = some c) (hg:c.gn=false) (hne:¬ y=x) (hl:l.length≤16) (hL:(encL rs++[[int 0,int 0,str (ByteArray.mk #[]),nilS]])[0+Int.toNat ((rs.length:Nat):Int)]? = some [int 0,int 0,str (ByteArray.mk #[]),nilS]) (hls:CallC P G 37 [u32 y] [] (.ret (ils l)) []) (hI:∀ r,RunL P G r 6 (loopAt P 15 0) (inS t y (uC t x g rs y) c l nilS 0 [] 6 7) (.exit 2) (inX y (uC t x g rs y) c l 6 7)) (b:Bool) (H':List AObj) (h:(true=b)∧([jrR,AObj.box [AV.sl 9 false (Sq.encs (TE.cells t)),AV.sl 11 false (encs (TE.marks t))],AObj.box [int 3,int 0,str ByteArray.empty,AV.own 4 (g+1) 0 (List.length rs+1)],AObj.box [AV.lit (Value.int IntKind.u32 y)],AObj.arr (g+1) 4 false (List.set (encL rs++[[int 0,int 0,str (ByteArray.mk #[]),nilS]]) (0+Int.toNat (↑(List.length rs):Int)) [int 3,int 0,str (ByteArray.mk #[]),AV.own 8 0 0 2]),AObj.box [AV.lit (Value.int IntKind.u32 y)],AObj.box [int (CE.dv c),int (CE.sq c),int (CE.at' c),int (CE.ad c),int (CE.as' c),int (CE.aa c),int (CE.tm c),str (CE.vl c),Am.bool (CE.gn c)],AObj.box [int 3,int 0,str ByteArray.empty,AV.sl 4 false (encL (List.map iV l))],AObj.arr 0 4 false [[int 2,int 0,str (CE.vl c),nilS],[int 3,int 0,str ByteArray.empty,AV.sl 4 false (encL (List.map iV l))]]]=H')):YieldC P G 0 [int (↑k:Int),u32 y] (hC t x g rs++[AObj.box [u32 y]]) b H':=by
 have hz1:g=g:=(rfl)
 have hz8:g+1=g+1:=(rfl)
 obtain ⟨e1,e2⟩:=h
 exact YieldC.to ((show YieldC P G 0 [int (↑k:Int),u32 y] (hC t x g rs++[AObj.box [u32 y]]) true [jrR,AObj.box [AV.sl 9 false (Sq.encs (TE.cells t)),AV.sl 11 false (encs (TE.marks t))],AObj.box [int 3,int 0,str ByteArray.empty,AV.own 4 (g+1) 0 (List.length rs+1)],AObj.box [AV.lit (Value.int IntKind.u32 y)],AObj.arr (g+1) 4 false (List.set (encL rs++[[int 0,int 0,str (ByteArray.mk #[]),nilS]]) (0+Int.toNat (↑(List.length rs):Int)) [int 3,int 0,str (ByteArray.mk #[]),AV.own 8 0 0 2]),AObj.box [AV.lit (Value.int IntKind.u32 y)],AObj.box [int (CE.dv c),int (CE.sq c),int (CE.at' c),int (CE.ad c),int (CE.as' c),int (CE.aa c),int (CE.tm c),str (CE.vl c),Am.bool (CE.gn c)],AObj.box [int 3,int 0,str ByteArray.empty,AV.sl 4 false (encL (List.map iV l))],AObj.arr 0 4 false [[int 2,int 0,str (CE.vl c),nilS],[int 3,int 0,str ByteArray.empty,AV.sl 4 false (encL (List.map iV l))]]] from yieldC_of (fun r=>[ko (Orc.elem (Sq.enc c)),kp (show (0:Int)≤(↑k:Int)∧(Sq.encs (TE.cells t))[Int.toNat (↑k:Int)]? = some (Sq.enc c) from (el_nat hx)),kf hg,kp hz1,kt (show decide ((↑(List.length rs):Int) > (0:Int))=true from (decide_eq_true (by omega))),kf (show (y == x)=false from (decide_eq_false (by omega))),kc [] (@hls ),kv 59 (show Am.Sub (int (↑(List.length (Vec.ints l)):Int)) (int (↑(List.length l):Int)) from (Sub.of_eq (by simp only [Go.Vec.ints_length]))),kl [1,6,9,22,23,24,25,26,27,28,29,30,31,32,33,34,35,36,37,38,39,40,56,57] 8 (@hI (r)),ko (Orc.own),ko (Orc.elem [int 0,int 0,str (ByteArray.mk #[]),nilS]),ko (Orc.emp),kp hz1,kp hz1,kp (show List.length rs=List.length (encL rs) from ((Go.Cdc.encL_length _).symm)),kp (show (List.length rs+1) * 56≤140737488355328 from (by omega)),kp hz8,kp (show (0:Int)≤(↑(List.length rs):Int)∧(↑(List.length rs):Int)<(↑(List.length rs+1):Int) from (by omega)),kp hz8,kp hL]) (fun _=>by kernel_rfl))) e1 e2
theorem inC_0 (t:TE) (x y:Int) (g0:Nat) (rs:List CV) (c:CE) (l:List Int) (v:Int) (r:Option Nat) (hx:l[0]? = some v) (hl:l.length≤16) (ex:AEx) (s':St) (h:((((0:Int)<(↑(List.length l):Int))→RunL P G r 6 (loopAt P 15 0) (St.mk (slots 87 [(2,AV.ptr 2 0),(5,AV.ptr 3 0),(7,AV.lit (Value.int IntKind.u32 y)),(8,AV.ptr 6 0),(10,AV.ptr 7 0),(58,AV.sl 1 false (Vec.ints l)),(59,int (↑(List.length l):Int)),(60,int 1)]) [jrU,AObj.box [AV.sl 9 false (Sq.encs (TE.cells t)),AV.sl 11 false (encs (TE.marks t))],AObj.box [int 3,int 0,str ByteArray.empty,AV.own 4 g0 0 (List.length rs)],AObj.box [AV.lit (Value.int IntKind.u32 x)],AObj.arr g0 4 false (encL rs),AObj.box [AV.lit (Value.int IntKind.u32 y)],AObj.box [int (CE.dv c),int (CE.sq c),int (CE.at' c),int (CE.ad c),int (CE.as' c),int (CE.aa c),int (CE.tm c),str (CE.vl c),Am.bool (CE.gn c)],AObj.box [int 3,int 0,str ByteArray.empty,AV.own 8 0 0 1],AObj.arr 0 4 false [[int 1,int v,str (ByteArray.mk #[]),nilS]]] []) ex s')∧((¬(0:Int)<(↑(List.length l):Int))→(AEx.exit 2=ex)∧(St.mk (slots 87 [(2,AV.ptr 2 0),(5,AV.ptr 3 0),(7,AV.lit (Value.int IntKind.u32 y)),(8,AV.ptr 6 0),(10,AV.ptr 7 0)]) [jrU,AObj.box [AV.sl 9 false (Sq.encs (TE.cells t)),AV.sl 11 false (encs (TE.marks t))],AObj.box [int 3,int 0,str ByteArray.empty,AV.own 4 g0 0 (List.length rs)],AObj.box [AV.lit (Value.int IntKind.u32 x)],AObj.arr g0 4 false (encL rs),AObj.box [AV.lit (Value.int IntKind.u32 y)],AObj.box [int (CE.dv c),int (CE.sq c),int (CE.at' c),int (CE.ad c),int (CE.as' c),int (CE.aa c),int (CE.tm c),str (CE.vl c),Am.bool (CE.gn c)],AObj.box [int 3,int 0,str ByteArray.empty,nilS]] []=s')))):RunL P G r 6 (loopAt P 15 0) (inS t y (uC t x g0 rs y) c l nilS 0 [] 6 7) ex s':=by
 by_cases c1:((0:Int)<(↑(List.length l):Int))
 · have h:=h.1 c1
   exact loop_next [kt (decide_eq_true c1),ko (Orc.elem (Vec.enc1 v)),kp (show (0:Int)≤(0:Int)∧(Vec.ints l)[Int.toNat (↑0:Int)]? = some (Vec.enc1 v) from (el_nat hx)),kp (show [[int 1,int v,str (ByteArray.mk #[]),nilS]]≠[] from (by simp)),kp (show 56≤140737488355328 from (by omega))] (others 87 [2,5,7,8,10,58,59,60]) 9 h (by kernel_rfl)
 · have h:=h.2 c1
   obtain ⟨eX,eS⟩:=h
   exact RunL.to ((show RunL P G r 6 (loopAt P 15 0) (inS t y (uC t x g0 rs y) c l nilS 0 [] 6 7) (AEx.exit 2) (St.mk (slots 87 [(2,AV.ptr 2 0),(5,AV.ptr 3 0),(7,AV.lit (Value.int IntKind.u32 y)),(8,AV.ptr 6 0),(10,AV.ptr 7 0)]) [jrU,AObj.box [AV.sl 9 false (Sq.encs (TE.cells t)),AV.sl 11 false (encs (TE.marks t))],AObj.box [int 3,int 0,str ByteArray.empty,AV.own 4 g0 0 (List.length rs)],AObj.box [AV.lit (Value.int IntKind.u32 x)],AObj.arr g0 4 false (encL rs),AObj.box [AV.lit (Value.int IntKind.u32 y)],AObj.box [int (CE.dv c),int (CE.sq c),int (CE.at' c),int (CE.ad c),int (CE.as' c),int (CE.aa c),int (CE.tm c),str (CE.vl c),Am.bool (CE.gn c)],AObj.box [int 3,int 0,str ByteArray.empty,nilS]] []) from loop_exit [kf (decide_eq_false c1)] (others 87 [2,5,7,8,10]) 8 (by kernel_rfl))) eX (SubS.of_eq eS)
theorem inC_n (t:TE) (x y:Int) (g0:Nat) (rs:List CV) (c:CE) (l:List Int) (v:Int) (r:Option Nat) (k g:Nat) (z:List CV) (hz:z.length≤16) (hx:l[k]? = some v) (hl:l.length≤16) (ex:AEx) (s':St) (h:((((↑k:Int)<(↑(List.length l):Int))→RunL P G r 6 (loopAt P 15 0) (St.mk (slots 87 [(2,AV.ptr 2 0),(5,AV.ptr 3 0),(7,AV.lit (Value.int IntKind.u32 y)),(8,AV.ptr 6 0),(10,AV.ptr 7 0),(58,AV.sl 1 false (Vec.ints l)),(59,int (↑(List.length l):Int)),(60,int (↑(k+1):Int))]) [jrU,AObj.box [AV.sl 9 false (Sq.encs (TE.cells t)),AV.sl 11 false (encs (TE.marks t))],AObj.box [int 3,int 0,str ByteArray.empty,AV.own 4 g0 0 (List.length rs)],AObj.box [AV.lit (Value.int IntKind.u32 x)],AObj.arr g0 4 false (encL rs),AObj.box [AV.lit (Value.int IntKind.u32 y)],AObj.box [int (CE.dv c),int (CE.sq c),int (CE.at' c),int (CE.ad c),int (CE.as' c),int (CE.aa c),int (CE.tm c),str (CE.vl c),Am.bool (CE.gn c)],AObj.box [int 3,int 0,str ByteArray.empty,AV.own 8 (g+1) 0 (List.length z+1)],AObj.arr (g+1) 4 false (encL z++[[int 1,int v,str (ByteArray.mk #[]),nilS]])] []) ex s')∧((¬(↑k:Int)<(↑(List.length l):Int))→(AEx.exit 2=ex)∧(St.mk (slots 87 [(2,AV.ptr 2 0),(5,AV.ptr 3 0),(7,AV.lit (Value.int IntKind.u32 y)),(8,AV.ptr 6 0),(10,AV.ptr 7 0)]) [jrU,AObj.box [AV.sl 9 false (Sq.encs (TE.cells t)),AV.sl 11 false (encs (TE.marks t))],AObj.box [int 3,int 0,str ByteArray.empty,AV.own 4 g0 0 (List.length rs)],AObj.box [AV.lit (Value.int IntKind.u32 x)],AObj.arr g0 4 false (encL rs),AObj.box [AV.lit (Value.int IntKind.u32 y)],AObj.box [int (CE.dv c),int (CE.sq c),int (CE.at' c),int (CE.ad c),int (CE.as' c),int (CE.aa c),int (CE.tm c),str (CE.vl c),Am.bool (CE.gn c)],AObj.box [int 3,int 0,str ByteArray.empty,AV.own 8 g 0 (List.length z)],AObj.arr g 4 false (encL z)] []=s')))):RunL P G r 6 (loopAt P 15 0) (inS t y (uC t x g0 rs y) c l (AV.own 8 g 0 (List.length z)) k [AObj.arr g 4 false (encL z)] 6 7) ex s':=by
 by_cases c1:((↑k:Int)<(↑(List.length l):Int))
 · have h:=h.1 c1
   exact loop_next [kt (decide_eq_true c1),ko (Orc.elem (Vec.enc1 v)),kp (show (0:Int)≤(↑k:Int)∧(Vec.ints l)[Int.toNat (↑k:Int)]? = some (Vec.enc1 v) from (el_nat hx)),kp (show g=g from (rfl)),kp (show List.length z=List.length (encL z) from ((Go.Cdc.encL_length _).symm)),kp (show (List.length z+1) * 56≤140737488355328 from (by omega)),kv 71 (show Am.Sub (int (IntKind.wrap IntKind.i64 ((↑k:Int)+1))) (int (↑(k+1):Int)) from (Sub.of_wrap (by omega) (by omega) (by omega)))] (others 87 [2,5,7,8,10,58,59,60]) 9 h (by kernel_rfl)
 · have h:=h.2 c1
   obtain ⟨eX,eS⟩:=h
   exact RunL.to ((show RunL P G r 6 (loopAt P 15 0) (inS t y (uC t x g0 rs y) c l (AV.own 8 g 0 (List.length z)) k [AObj.arr g 4 false (encL z)] 6 7) (AEx.exit 2) (St.mk (slots 87 [(2,AV.ptr 2 0),(5,AV.ptr 3 0),(7,AV.lit (Value.int IntKind.u32 y)),(8,AV.ptr 6 0),(10,AV.ptr 7 0)]) [jrU,AObj.box [AV.sl 9 false (Sq.encs (TE.cells t)),AV.sl 11 false (encs (TE.marks t))],AObj.box [int 3,int 0,str ByteArray.empty,AV.own 4 g0 0 (List.length rs)],AObj.box [AV.lit (Value.int IntKind.u32 x)],AObj.arr g0 4 false (encL rs),AObj.box [AV.lit (Value.int IntKind.u32 y)],AObj.box [int (CE.dv c),int (CE.sq c),int (CE.at' c),int (CE.ad c),int (CE.as' c),int (CE.aa c),int (CE.tm c),str (CE.vl c),Am.bool (CE.gn c)],AObj.box [int 3,int 0,str ByteArray.empty,AV.own 8 g 0 (List.length z)],AObj.arr g 4 false (encL z)] []) from loop_exit [kf (decide_eq_false c1)] (others 87 [2,5,7,8,10]) 9 (by kernel_rfl))) eX (SubS.of_eq eS)
noncomputable def inN (y:Int) (Hy:List AObj) (c:CE) (cid sid:Nat):St:={ env:=slots 87 [(2,.ptr 2 0),(5,.ptr 3 0),(7,u32 y),(8,.ptr cid 0),(10,.ptr sid 0)],H:=Hy++[.box (Sq.enc c),.box [int 3,int 0,str ByteArray.empty,nilS]] }
theorem inA_z (t:TE) (x y:Int) (c:CE) (l:List Int) (r:Option Nat) (hx:l.length=0) (h:True):RunL P G r 5 (loopAt P 15 0) (inS t y (uA t x y) c l nilS 0 [] 5 6) (AEx.exit 2) (inN y (uA t x y) c 5 6):=by
 have _:=h
 exact loop_exit [kf (show decide ((↑0:Int)<(↑(List.length l):Int))=false from (decide_eq_false (by omega)))] (others 87 [2,5,7,8,10]) 7 (by kernel_rfl)
theorem inC_z (t:TE) (x y:Int) (g0:Nat) (rs:List CV) (c:CE) (l:List Int) (r:Option Nat) (hx:l.length=0) (h:True):RunL P G r 6 (loopAt P 15 0) (inS t y (uC t x g0 rs y) c l nilS 0 [] 6 7) (AEx.exit 2) (inN y (uC t x g0 rs y) c 6 7):=by
 have _:=h
 exact loop_exit [kf (show decide ((↑0:Int)<(↑(List.length l):Int))=false from (decide_eq_false (by omega)))] (others 87 [2,5,7,8,10]) 8 (by kernel_rfl)
noncomputable def inP (y:Int) (Hy:List AObj) (c:CE) (g:Nat) (z:List CV) (cid sid aid:Nat):St:={ env:=slots 87 [(2,.ptr 2 0),(5,.ptr 3 0),(7,u32 y),(8,.ptr cid 0),(10,.ptr sid 0)],H:=Hy++[.box (Sq.enc c),.box [int 3,int 0,str ByteArray.empty,.own aid g 0 z.length],.arr g 4 false (encL z)] }
theorem inA_e (t:TE) (x y:Int) (c:CE) (l:List Int) (r:Option Nat) (k g:Nat) (z:List CV) (hx:l.length≤k) (h:True):RunL P G r 5 (loopAt P 15 0) (inS t y (uA t x y) c l (AV.own 7 g 0 (List.length z)) k [AObj.arr g 4 false (encL z)] 5 6) (AEx.exit 2) (inP y (uA t x y) c g z 5 6 7):=by
 have _:=h
 exact loop_exit [kf (show decide ((↑k:Int)<(↑(List.length l):Int))=false from (decide_eq_false (by omega)))] (others 87 [2,5,7,8,10]) 8 (by kernel_rfl)
theorem inC_e (t:TE) (x y:Int) (g0:Nat) (rs:List CV) (c:CE) (l:List Int) (r:Option Nat) (k g:Nat) (z:List CV) (hx:l.length≤k) (h:True):RunL P G r 6 (loopAt P 15 0) (inS t y (uC t x g0 rs y) c l (AV.own 8 g 0 (List.length z)) k [AObj.arr g 4 false (encL z)] 6 7) (AEx.exit 2) (inP y (uC t x g0 rs y) c g z 6 7 8):=by
 have _:=h
 exact loop_exit [kf (show decide ((↑k:Int)<(↑(List.length l):Int))=false from (decide_eq_false (by omega)))] (others 87 [2,5,7,8,10]) 9 (by kernel_rfl)
end Go.Tx


namespace Go.Tx
open Go Go.Am Go.Proofs Go.Seat
open Go.Sq (CE cel ces ida idv pid fX fiO OkRs chkE)
open Go.Cdc (CV encL)
theorem inA_loop (t:TE) (x y:Int) (c:CE) (l:List Int) (hl:l.length≤16) (r:Option Nat):∀ d k g,l.length - k=d→k≤l.length→∃ g',RunL P G r 5 (loopAt P 15 0) (inS t y (uA t x y) c l (.own 7 g 0 ((l.take k).map iV).length) k [.arr g 4 false (encL ((l.take k).map iV))] 5 6) (.exit 2) (inP y (uA t x y) c g' (l.map iV) 5 6 7):=by
 intro d
 induction d with
 | zero =>
  intro k g hd hk
  rw [List.take_of_length_le (by omega)]
  exact ⟨g,inA_e t x y c l r k g (l.map iV) (by omega) trivial⟩
 | succ d ih =>
  intro k g hd hk
  have hlt:k<l.length:=by omega
  have hx:l[k]? = some l[k]:=List.getElem?_eq_getElem hlt
  obtain ⟨g',nx⟩:=ih (k+1) (g+1) (by omega) (by omega)
  have e:(l.take (k+1)).map iV=(l.take k).map iV++[iV l[k]]:=by rw [List.take_succ_eq_append_getElem hlt,List.map_append]; rfl
  refine ⟨g',inA_n t x y c l l[k] r k g ((l.take k).map iV) (by simp; omega) hx hl _ _ ⟨fun _=>?_,fun h=>absurd (by omega) h⟩⟩
  refine RunL.subArrPre (b:=7) (k:=((l.take k).map iV).length) (j:=3) rfl (get_last _ _ _ (Cdc.encL_length _).symm) rfl (Sub.emptyL 4 none 0) ?_
  rw [set_last _ _ _ _ (Cdc.encL_length _).symm]
  rw [e,List.length_append,← Cdc.encL_append] at nx
  exact nx
theorem inC_loop (t:TE) (x y:Int) (g0:Nat) (rs:List CV) (c:CE) (l:List Int) (hl:l.length≤16) (r:Option Nat):∀ d k g,l.length - k=d→k≤l.length→∃ g',RunL P G r 6 (loopAt P 15 0) (inS t y (uC t x g0 rs y) c l (.own 8 g 0 ((l.take k).map iV).length) k [.arr g 4 false (encL ((l.take k).map iV))] 6 7) (.exit 2) (inP y (uC t x g0 rs y) c g' (l.map iV) 6 7 8):=by
 intro d
 induction d with
 | zero =>
  intro k g hd hk
  rw [List.take_of_length_le (by omega)]
  exact ⟨g,inC_e t x y g0 rs c l r k g (l.map iV) (by omega) trivial⟩
 | succ d ih =>
  intro k g hd hk
  have hlt:k<l.length:=by omega
  have hx:l[k]? = some l[k]:=List.getElem?_eq_getElem hlt
  obtain ⟨g',nx⟩:=ih (k+1) (g+1) (by omega) (by omega)
  have e:(l.take (k+1)).map iV=(l.take k).map iV++[iV l[k]]:=by rw [List.take_succ_eq_append_getElem hlt,List.map_append]; rfl
  refine ⟨g',inC_n t x y g0 rs c l l[k] r k g ((l.take k).map iV) (by simp; omega) hx hl _ _ ⟨fun _=>?_,fun h=>absurd (by omega) h⟩⟩
  refine RunL.subArrPre (b:=8) (k:=((l.take k).map iV).length) (j:=3) rfl (get_last _ _ _ (Cdc.encL_length _).symm) rfl (Sub.emptyL 4 none 0) ?_
  rw [set_last _ _ _ _ (Cdc.encL_length _).symm]
  rw [e,List.length_append,← Cdc.encL_append] at nx
  exact nx
theorem encL_take (l:List CV):((encL l).drop 0).take l.length=encL l:=by
 rw [List.drop_zero,← Cdc.encL_length l,List.take_length]
theorem inA_all (t:TE) (x y:Int) (c:CE) (l:List Int) (hl:l.length≤16) (r:Option Nat):RunL P G r 5 (loopAt P 15 0) (inS t y (uA t x y) c l nilS 0 [] 5 6) (.exit 2) (inX y (uA t x y) c l 5 6):=by
 cases l with
 | nil =>
  have h:=inA_z t x y c [] r rfl trivial
  exact RunL.subBox (b:=6) (j:=3) h rfl rfl (Sub.emptyL 4 none 0)
 | cons v l =>
  obtain ⟨g',h⟩:=inA_loop t x y c (v::l) hl r _ 1 0 rfl (by simp)
  have h0:=inA_0 t x y c (v::l) v r rfl hl _ _ ⟨fun _=>RunL.subArrPre (b:=7) (k:=0) (j:=3) rfl rfl rfl (Sub.emptyL 4 none 0) h,fun h=>absurd (by simp) h⟩
  have e:evalFrz (inP y (uA t x y) c g' ((v::l).map iV) 5 6 7).H (.own 7 g' 0 ((v::l).map iV).length) (encL ((v::l).map iV))=some (.sl 4 false (encL ((v::l).map iV)),uA t x y++[.box (Sq.enc c),.box [int 3,int 0,str ByteArray.empty,.own 7 g' 0 ((v::l).map iV).length],.arr g' 4 true (encL ((v::l).map iV))],[g'=g',((encL ((v::l).map iV)).drop 0).take ((v::l).map iV).length=encL ((v::l).map iV),(encL ((v::l).map iV)).length=((v::l).map iV).length,∀ c∈encL ((v::l).map iV),c.all AV.pureB=true]):=rfl
  have hp:AllP [g'=g',((encL ((v::l).map iV)).drop 0).take ((v::l).map iV).length=encL ((v::l).map iV),(encL ((v::l).map iV)).length=((v::l).map iV).length,∀ c∈encL ((v::l).map iV),c.all AV.pureB=true]:=⟨rfl,encL_take _,Cdc.encL_length _,Cdc.encL_pure _,trivial⟩
  have h1:=RunL.frzBox (b:=6) (j:=3) (cells:=[int 3,int 0,str ByteArray.empty,.own 7 g' 0 ((v::l).map iV).length]) h0 rfl (H1:=uA t x y++[.box (Sq.enc c),.box [int 3,int 0,str ByteArray.empty,.own 7 g' 0 ((v::l).map iV).length],.arr g' 4 true (encL ((v::l).map iV))]) rfl rfl e hp
  exact RunL.cut 7 h1 (fun x h=>by cases h) rfl trivial
theorem inC_all (t:TE) (x y:Int) (g0:Nat) (rs:List CV) (c:CE) (l:List Int) (hl:l.length≤16) (r:Option Nat):RunL P G r 6 (loopAt P 15 0) (inS t y (uC t x g0 rs y) c l nilS 0 [] 6 7) (.exit 2) (inX y (uC t x g0 rs y) c l 6 7):=by
 cases l with
 | nil =>
  have h:=inC_z t x y g0 rs c [] r rfl trivial
  exact RunL.subBox (b:=7) (j:=3) h rfl rfl (Sub.emptyL 4 none 0)
 | cons v l =>
  obtain ⟨g',h⟩:=inC_loop t x y g0 rs c (v::l) hl r _ 1 0 rfl (by simp)
  have h0:=inC_0 t x y g0 rs c (v::l) v r rfl hl _ _ ⟨fun _=>RunL.subArrPre (b:=8) (k:=0) (j:=3) rfl rfl rfl (Sub.emptyL 4 none 0) h,fun h=>absurd (by simp) h⟩
  have e:evalFrz (inP y (uC t x g0 rs y) c g' ((v::l).map iV) 6 7 8).H (.own 8 g' 0 ((v::l).map iV).length) (encL ((v::l).map iV))=some (.sl 4 false (encL ((v::l).map iV)),uC t x g0 rs y++[.box (Sq.enc c),.box [int 3,int 0,str ByteArray.empty,.own 8 g' 0 ((v::l).map iV).length],.arr g' 4 true (encL ((v::l).map iV))],[g'=g',((encL ((v::l).map iV)).drop 0).take ((v::l).map iV).length=encL ((v::l).map iV),(encL ((v::l).map iV)).length=((v::l).map iV).length,∀ c∈encL ((v::l).map iV),c.all AV.pureB=true]):=rfl
  have hp:AllP [g'=g',((encL ((v::l).map iV)).drop 0).take ((v::l).map iV).length=encL ((v::l).map iV),(encL ((v::l).map iV)).length=((v::l).map iV).length,∀ c∈encL ((v::l).map iV),c.all AV.pureB=true]:=⟨rfl,encL_take _,Cdc.encL_length _,Cdc.encL_pure _,trivial⟩
  have h1:=RunL.frzBox (b:=7) (j:=3) (cells:=[int 3,int 0,str ByteArray.empty,.own 8 g' 0 ((v::l).map iV).length]) h0 rfl (H1:=uC t x g0 rs y++[.box (Sq.enc c),.box [int 3,int 0,str ByteArray.empty,.own 8 g' 0 ((v::l).map iV).length],.arr g' 4 true (encL ((v::l).map iV))]) rfl rfl e hp
  exact RunL.cut 8 h1 (fun x h=>by cases h) rfl ⟨ids_lt (Cdc.encL_ids _) 8,trivial⟩
end Go.Tx
