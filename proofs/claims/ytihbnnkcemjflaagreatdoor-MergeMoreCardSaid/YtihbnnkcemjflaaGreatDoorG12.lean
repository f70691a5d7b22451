import Derived.Test.YtihbnnkcemjflaaGreatDoorG11
import Derived.Test.YtihbnnkcemjflaaGreatDoorCards
import Derived.Test.YtihbnnkcemjflaaGreatDoorTie
import Derived.ProofKit
import Derived.OpenShut
import Derived.LaidMore
import Derived.Maps.RangeWalk
import Derived.Deep.DeepHandedRow
set_option maxRecDepth 100000
set_option linter.unusedSimpArgs false
set_option linter.unusedVariables false

namespace Go.Proofs.YtihbnnkcemjflaaGreatDoor
open Go Go.Am Go.ChangeShapes Go.WideShapes Go.RowKit Go.Seat
theorem gE:Tryz.prog.globalNamed "chartroom/document.effects" = some 0:=by kernel_rfl
theorem gK:Tryz.prog.globalNamed "chartroom/ops.kinds" = some 1:=by kernel_rfl
theorem gG:Tryz.prog.globalNamed "chartroom/vector.greater" = some 2:=by kernel_rfl
theorem tE:(Tryz.prog.globals[0]?).map (·.type)=some 103:=by kernel_rfl
theorem tK:(Tryz.prog.globals[1]?).map (·.type)=some 110:=by kernel_rfl
theorem tG:(Tryz.prog.globals[2]?).map (·.type)=some 146:=by kernel_rfl
theorem cRu:Tryz.prog.cellsOf 146=1:=by kernel_rfl
theorem cRf:Tryz.prog.cellsOf 144=1:=by kernel_rfl
theorem cKi:Tryz.prog.cellsOf 108=2:=by kernel_rfl
theorem cKf:Tryz.prog.cellsOf 106=1:=by kernel_rfl
theorem cEf:Tryz.prog.cellsOf 102=1:=by kernel_rfl
theorem cEo:Tryz.prog.cellsOf 100=1:=by kernel_rfl
theorem cIn:Tryz.prog.cellsOf 3=1:=by kernel_rfl
theorem rule_cell {W:World} {n:String} {g f0:Nat} {b:UInt8} {r:List UInt8} (hg:Tryz.prog.globalNamed n=some g) (ht:(Tryz.prog.globals[g]?).map (·.type)=some 146)
 (hone:((List.range Tryz.prog.funcs.size).filter fun f=>(Tryz.prog.funcs[f]?).any (·.name.toUTF8.data.toList == b::r))=[f0])
 (h:funcsAt Tryz.prog W n (.agg [.iface "func" (.lit (.string (b::r)))])):W.cell? ⟨g,0,none⟩=some (.func (.func f0) #[] #[]):=by
 obtain ⟨g',t,cs,fuel,p,hg',ht',hv,hd⟩:=h
 obtain rfl:=Option.some.inj (hg.symm.trans hg')
 obtain rfl:=Option.some.inj (ht.symm.trans ht')
 obtain ⟨xs,m,_,hx,hl,hxl,hf⟩:=DataW.trod_struct Tryz.underlying146 hd
 have h0:=hf 0 _ rfl
 rw [cRu] at hl
 obtain ⟨v,hcs⟩:∃ v,cs.toList=[v]:=by
  match cs.toList,hl with
  | [v],_=>exact ⟨v,rfl⟩
 rw [hcs] at h0
 have hc1:((([v]:List Value).drop 0).take (Tryz.prog.cellsOf 144))=[v]:=by rw [cRf]; rfl
 have h1:DataW.trod (funcToken Tryz.prog) Tryz.prog W 0 (fun _=>true) true m 144 [v]=xs[0]? := by rw [← hc1]; exact h0
 have hx1:(DataW.agg [.iface "func" (.lit (.string (b::r)))]:DataW Unit).funcsOut = .agg [.held (b::r)]:=by
  simp [DataW.funcsOut,DataW.funcsOutAll]
 rw [hx1] at hx
 injection hx with hx2 hx3
 injection hx2 with hx4
 match xs,hxl with
 | [y],_ =>
  have hy:y.1 = .held (b::r):=by simpa using hx4.symm
  have h2:DataW.trod (funcToken Tryz.prog) Tryz.prog W 0 (fun _=>true) true m 144 [v]=some (.held (b::r),y.2):=by rw [h1,← hy]; rfl
  obtain rfl:=func_of_trod (f0:=f0) Tryz.underlying144 hone h2
  have:=World.var?_cell hg hv 0
  rw [Array.eq_one_of_toList hcs] at this
  simpa using this
theorem kind_ent {W:World} {n:Nat} {x:MapEntry} {i pt:Int} {b:UInt8} {r:List UInt8} {f0:Nat}
 (hone:((List.range Tryz.prog.funcs.size).filter fun f=>(Tryz.prog.funcs[f]?).any (·.name.toUTF8.data.toList == b::r))=[f0])
 (h:WideElems.rd Tryz.prog 3 (WideElems.elemAt (funcToken Tryz.prog) Tryz.prog W 0 (fun _=>true) true n 108) x=some (.int .i64 i,.agg [.lit (.int .i64 pt),.held (b::r)])) :
 x.key = .int .i64 i∧PRep W (fun _=>False) (.agg [Am.int pt,fnV f0]) x.val:=by
 obtain ⟨k,hk,e,_⟩:=Maps.keyOf_int_inv Tryz.underlying3 (WideElems.rd_key h)
 obtain rfl:i=k:=by cases e; rfl
 refine ⟨hk,?_⟩
 obtain ⟨z,hz,hy⟩:=WideElems.rd_val h
 unfold WideElems.elemAt at hz
 split at hz
 · obtain ⟨xs,m,_,hx,hl,hxl,hf⟩:=DataW.trod_struct Tryz.underlying108 hz
   rw [cKi] at hl
   have h0:=hf 0 _ rfl
   have h1:=hf 1 _ rfl
   obtain ⟨u,v,hcs⟩:∃ u v,x.val.cells.toList=[u,v]:=by
    match x.val.cells.toList,hl with
    | [u,v],_=>exact ⟨u,v,rfl⟩
   rw [hcs] at h0 h1
   have g0:DataW.trod (funcToken Tryz.prog) Tryz.prog W 0 (fun _=>true) true m 3 [u]=xs[0]? := by
    have:((([u,v]:List Value).drop 0).take (Tryz.prog.cellsOf 3))=[u]:=by rw [cIn]; rfl
    rw [← this]; exact h0
   have g1:DataW.trod (funcToken Tryz.prog) Tryz.prog W 0 (fun _=>true) true m 106 [v]=xs[1]? := by
    have:((([u,v]:List Value).drop 1).take (Tryz.prog.cellsOf 106))=[v]:=by rw [cKf]; rfl
    rw [← this]; exact h1
   rw [hx] at hy
   match xs,hxl with
   | [y0,y1],_ =>
    simp only [List.map_cons,List.map_nil,DataW.agg.injEq,List.cons.injEq,and_true] at hy
    obtain ⟨k,e1,e2,_⟩:=DataW.trod_int Tryz.underlying3 (show DataW.trod _ Tryz.prog W 0 _ true m 3 [u]=some y0 from g0)
    obtain rfl:pt=k:=by rw [e2] at hy; simpa using hy.1
    have hu:u = .int .i64 pt:=by simpa using e1
    have h2:DataW.trod (funcToken Tryz.prog) Tryz.prog W 0 (fun _=>true) true m 106 [v]=some (.held (b::r),y1.2):=by rw [g1,hy.2]; rfl
    have hv:=func_of_trod (f0:=f0) Tryz.underlying106 hone h2
    have hval:x.val = .agg #[u,v]:=by
     cases hc:x.val<;>rw [hc] at hcs<;>simp [Value.cells] at hcs
     rename_i cs
     obtain ⟨l⟩:=cs
     simp at hcs
     rw [hcs]
    rw [hval,hu,hv]
    refine .agg _ [_,_] rfl fun j hj=>?_
    match j,hj with
    | 0,_=>exact .lit _
    | 1,_=>exact .lit _
 · cases hz
theorem eff_ent {W:World} {n:Nat} {x:MapEntry} {i:Int} {b:UInt8} {r:List UInt8} {f0:Nat}
 (hone:((List.range Tryz.prog.funcs.size).filter fun f=>(Tryz.prog.funcs[f]?).any (·.name.toUTF8.data.toList == b::r))=[f0])
 (h:WideElems.rd Tryz.prog 3 (WideElems.elemAt (funcToken Tryz.prog) Tryz.prog W 0 (fun _=>true) true n 102) x=some (.int .i64 i,.agg [.held (b::r)])) :
 x.key = .int .i64 i∧PRep W (fun _=>False) (.agg [fnV f0]) x.val:=by
 obtain ⟨k,hk,e,_⟩:=Maps.keyOf_int_inv Tryz.underlying3 (WideElems.rd_key h)
 obtain rfl:i=k:=by cases e; rfl
 refine ⟨hk,?_⟩
 obtain ⟨z,hz,hy⟩:=WideElems.rd_val h
 unfold WideElems.elemAt at hz
 split at hz
 · rename_i hone1
   obtain ⟨xs,m,_,hx,hl,hxl,hf⟩:=DataW.trod_struct Tryz.underlying102 hz
   rw [cEf] at hl
   have h1:=hf 0 _ rfl
   obtain ⟨v,hcs⟩:∃ v,x.val.cells.toList=[v]:=by
    match x.val.cells.toList,hl with
    | [v],_=>exact ⟨v,rfl⟩
   rw [hcs] at h1
   have g1:DataW.trod (funcToken Tryz.prog) Tryz.prog W 0 (fun _=>true) true m 100 [v]=xs[0]? := by
    have:((([v]:List Value).drop 0).take (Tryz.prog.cellsOf 100))=[v]:=by rw [cEo]; rfl
    rw [← this]; exact h1
   rw [hx] at hy
   match xs,hxl with
   | [y1],_ =>
    simp only [List.map_cons,List.map_nil,DataW.agg.injEq,List.cons.injEq,and_true] at hy
    have h2:DataW.trod (funcToken Tryz.prog) Tryz.prog W 0 (fun _=>true) true m 100 [v]=some (.held (b::r),y1.2):=by rw [g1,hy]; rfl
    have hv:=func_of_trod (f0:=f0) Tryz.underlying100 hone h2
    have hval:x.val = .agg #[v]:=by
     cases hc:x.val<;>rw [hc] at hone1<;>simp only [Value.formed,Tryz.underlying102,Bool.false_eq_true] at hone1
     rw [hc] at hcs
     rename_i cs
     obtain ⟨l⟩:=cs
     obtain rfl:l=[v]:=hcs
     rfl
    rw [hval,hv]
    refine .agg _ [_] rfl fun j hj=>?_
    match j,hj with
    | 0,_=>exact .lit _
 · cases hz
theorem getD_map {α β:Type} (g:α→β) (l:List α) (j:Nat) (h:j<l.length) (d:β):(l.map g).getD j d=g l[j]:=by
 rw [List.getD_eq_getElem?_getD,List.getElem?_map,List.getElem?_eq_getElem h]; rfl
theorem map_cell {W:World} {n:String} {g mt et:Nat} {T:List (Lit × DataW Unit)} {D:List (Lit × DataW (List UInt8))} {E:List (Value × AV)} (hK:Lit × DataW (List UInt8)→Value × AV)
 (hg:Tryz.prog.globalNamed n=some g) (ht:(Tryz.prog.globals[g]?).map (·.type)=some mt) (hu:Tryz.prog.underlying mt=some (.map 3 et)) (hout:(DataW.map T).funcsOut = .map D) (hE:D.map hK=E) (hne:D≠[]) (hnd:(E.map (·.1)).Nodup)
 (hin:∀ {n:Nat} {x:MapEntry} {y:Lit × DataW (List UInt8)},y∈D→WideElems.rd Tryz.prog 3 (WideElems.elemAt (funcToken Tryz.prog) Tryz.prog W 0 (fun _=>true) true n et) x=some y→x.key=(hK y).1∧PRep W (fun _=>False) (hK y).2 x.val)
 (h:funcsAt Tryz.prog W n (.map T)):∃ u,W.cell? ⟨g,0,none⟩=some u∧PRep W (fun _=>False) (.md false E) u:=by
 obtain ⟨g',t,cs,fuel,p,hg',ht',hv,hd⟩:=h
 obtain rfl:=Option.some.inj (hg.symm.trans hg')
 obtain rfl:=Option.some.inj (ht.symm.trans ht')
 rw [hout] at hd
 rcases WideElems.open_map hu hd with ⟨_,hx⟩ | ⟨b,es,clock,n,rfl,hcs,hb,_,F,hx⟩
 · simp [hne] at hx
 · simp only [Prod.mk.injEq,DataW.map.injEq] at hx
   have hcell:=World.var?_cell hg hv 0
   rw [Array.eq_one_of_toList hcs] at hcell
   refine ⟨.map (some b),by simpa using hcell,?_⟩
   have hp:=sorted_perm (es.toList.map (WideElems.rg Tryz.prog 3 (WideElems.elemAt (funcToken Tryz.prog) Tryz.prog W 0 (fun _=>true) true n et)))
   rw [← hx.1] at hp
   have key:∀ x∈es.toList,x.key=(hK (WideElems.rg Tryz.prog 3 (WideElems.elemAt (funcToken Tryz.prog) Tryz.prog W 0 (fun _=>true) true n et) x)).1∧PRep W (fun _=>False) (hK (WideElems.rg Tryz.prog 3 (WideElems.elemAt (funcToken Tryz.prog) Tryz.prog W 0 (fun _=>true) true n et) x)).2 x.val:=fun x hx'=>by
    obtain ⟨y,hy⟩:=F.reads x hx'
    have hm:WideElems.rg Tryz.prog 3 (WideElems.elemAt (funcToken Tryz.prog) Tryz.prog W 0 (fun _=>true) true n et) x∈D:=hp.mem_iff.2 (List.mem_map_of_mem hx')
    rw [WideElems.rg_of hy] at hm ⊢
    exact hin hm hy
   have hp2:=(hp.map hK).symm
   rw [hE,List.map_map] at hp2
   refine .md false E _ hp2 b es.toList clock (fun h=>h) (by simpa using hb) ?_ ?_ (fun j hj=>?_) (fun h=>(by cases h))
   · rw [List.map_map]
     exact List.map_congr_left fun x hx'=>(key x hx').1
   · exact (hp2.map _).nodup_iff.2 hnd
   · rw [List.length_map] at hj
     unfold atE atV
     rw [getD_map _ _ _ hj,List.getD_eq_getElem?_getD,List.getElem?_eq_getElem hj]
     exact (key _ (List.getElem_mem hj)).2
def kindsT:List (Lit × DataW Unit):=[(.int .i64 1,.agg [.lit (.int .i64 1),.iface "func" (.lit (.string [99,104,97,114,116,114,111,111,109,47,111,112,115,46,107,105,110,100,115,36,49]))]),(.int .i64 2,.agg [.lit (.int .i64 1),.iface "func" (.lit (.string [99,104,97,114,116,114,111,111,109,47,111,112,115,46,107,105,110,100,115,36,50]))]),(.int .i64 3,.agg [.lit (.int .i64 2),.iface "func" (.lit (.string [99,104,97,114,116,114,111,111,109,47,111,112,115,46,107,105,110,100,115,36,51]))]),(.int .i64 4,.agg [.lit (.int .i64 2),.iface "func" (.lit (.string [99,104,97,114,116,114,111,111,109,47,111,112,115,46,107,105,110,100,115,36,52]))]),(.int .i64 5,.agg [.lit (.int .i64 3),.iface "func" (.lit (.string [99,104,97,114,116,114,111,111,109,47,111,112,115,46,107,105,110,100,115,36,53]))]),(.int .i64 6,.agg [.lit (.int .i64 4),.iface "func" (.lit (.string [99,104,97,114,116,114,111,111,109,47,111,112,115,46,107,105,110,100,115,36,54]))]),(.int .i64 7,.agg [.lit (.int .i64 4),.iface "func" (.lit (.string [99,104,97,114,116,114,111,111,109,47,111,112,115,46,107,105,110,100,115,36,55]))]),(.int .i64 8,.agg [.lit (.int .i64 4),.iface "func" (.lit (.string [99,104,97,114,116,114,111,111,109,47,111,112,115,46,107,105,110,100,115,36,56]))])]
def kindsD:List (Lit × DataW (List UInt8)):=[(.int .i64 1,.agg [.lit (.int .i64 1),.held [99,104,97,114,116,114,111,111,109,47,111,112,115,46,107,105,110,100,115,36,49]]),(.int .i64 2,.agg [.lit (.int .i64 1),.held [99,104,97,114,116,114,111,111,109,47,111,112,115,46,107,105,110,100,115,36,50]]),(.int .i64 3,.agg [.lit (.int .i64 2),.held [99,104,97,114,116,114,111,111,109,47,111,112,115,46,107,105,110,100,115,36,51]]),(.int .i64 4,.agg [.lit (.int .i64 2),.held [99,104,97,114,116,114,111,111,109,47,111,112,115,46,107,105,110,100,115,36,52]]),(.int .i64 5,.agg [.lit (.int .i64 3),.held [99,104,97,114,116,114,111,111,109,47,111,112,115,46,107,105,110,100,115,36,53]]),(.int .i64 6,.agg [.lit (.int .i64 4),.held [99,104,97,114,116,114,111,111,109,47,111,112,115,46,107,105,110,100,115,36,54]]),(.int .i64 7,.agg [.lit (.int .i64 4),.held [99,104,97,114,116,114,111,111,109,47,111,112,115,46,107,105,110,100,115,36,55]]),(.int .i64 8,.agg [.lit (.int .i64 4),.held [99,104,97,114,116,114,111,111,109,47,111,112,115,46,107,105,110,100,115,36,56]])]
theorem kinds_out:(DataW.map kindsT).funcsOut = .map kindsD:=by
 simp [kindsT,kindsD,DataW.funcsOut,DataW.funcsOutEntries,DataW.funcsOutAll]
def kAV (i:Int):AV:=if i=1 then .agg [Am.int 1,fnV 297] else if i=2 then .agg [Am.int 1,fnV 299] else if i=3 then .agg [Am.int 2,fnV 301] else if i=4 then .agg [Am.int 2,fnV 302] else if i=5 then .agg [Am.int 3,fnV 303] else if i=6 then .agg [Am.int 4,fnV 304] else if i=7 then .agg [Am.int 4,fnV 305] else if i=8 then .agg [Am.int 4,fnV 306] else .dead
def hK (y:Lit × DataW (List UInt8)):Value × AV:=match y.1 with
 | .int .i64 i=>(.int .i64 i,kAV i)
 | _=>(undef,.dead)
theorem kinds_cell {W:World} (h:funcsAt Tryz.prog W "chartroom/ops.kinds" (.map kindsT)):∃ u,W.cell? ⟨1,0,none⟩=some u∧PRep W (fun _=>False) (.md false kindsE) u:=by
 refine map_cell hK gK tK Tryz.underlying110 kinds_out (by simp [kindsD,hK,kindsE,kAV]) (by simp [kindsD]) (by simp [kindsE]) (fun {n x y} hy h=>?_) h
 simp only [kindsD,List.mem_cons,List.not_mem_nil,or_false] at hy
 rcases hy with rfl | rfl | rfl | rfl | rfl | rfl | rfl | rfl
 · exact kind_ent (f0:=297) (by kernel_rfl) h
 · exact kind_ent (f0:=299) (by kernel_rfl) h
 · exact kind_ent (f0:=301) (by kernel_rfl) h
 · exact kind_ent (f0:=302) (by kernel_rfl) h
 · exact kind_ent (f0:=303) (by kernel_rfl) h
 · exact kind_ent (f0:=304) (by kernel_rfl) h
 · exact kind_ent (f0:=305) (by kernel_rfl) h
 · exact kind_ent (f0:=306) (by kernel_rfl) h
def effT:List (Lit × DataW Unit):=[(.int .i64 1,.agg [.iface "func" (.lit (.string [99,104,97,114,116,114,111,111,109,47,100,111,99,117,109,101,110,116,46,101,102,102,101,99,116,115,36,49]))]),(.int .i64 2,.agg [.iface "func" (.lit (.string [99,104,97,114,116,114,111,111,109,47,100,111,99,117,109,101,110,116,46,101,102,102,101,99,116,115,36,50]))]),(.int .i64 3,.agg [.iface "func" (.lit (.string [99,104,97,114,116,114,111,111,109,47,100,111,99,117,109,101,110,116,46,101,102,102,101,99,116,115,36,51]))]),(.int .i64 4,.agg [.iface "func" (.lit (.string [99,104,97,114,116,114,111,111,109,47,100,111,99,117,109,101,110,116,46,101,102,102,101,99,116,115,36,52]))]),(.int .i64 5,.agg [.iface "func" (.lit (.string [99,104,97,114,116,114,111,111,109,47,100,111,99,117,109,101,110,116,46,101,102,102,101,99,116,115,36,53]))]),(.int .i64 6,.agg [.iface "func" (.lit (.string [99,104,97,114,116,114,111,111,109,47,100,111,99,117,109,101,110,116,46,101,102,102,101,99,116,115,36,54]))]),(.int .i64 7,.agg [.iface "func" (.lit (.string [99,104,97,114,116,114,111,111,109,47,100,111,99,117,109,101,110,116,46,101,102,102,101,99,116,115,36,55]))]),(.int .i64 8,.agg [.iface "func" (.lit (.string [99,104,97,114,116,114,111,111,109,47,100,111,99,117,109,101,110,116,46,101,102,102,101,99,116,115,36,56]))])]
def effD:List (Lit × DataW (List UInt8)):=[(.int .i64 1,.agg [.held [99,104,97,114,116,114,111,111,109,47,100,111,99,117,109,101,110,116,46,101,102,102,101,99,116,115,36,49]]),(.int .i64 2,.agg [.held [99,104,97,114,116,114,111,111,109,47,100,111,99,117,109,101,110,116,46,101,102,102,101,99,116,115,36,50]]),(.int .i64 3,.agg [.held [99,104,97,114,116,114,111,111,109,47,100,111,99,117,109,101,110,116,46,101,102,102,101,99,116,115,36,51]]),(.int .i64 4,.agg [.held [99,104,97,114,116,114,111,111,109,47,100,111,99,117,109,101,110,116,46,101,102,102,101,99,116,115,36,52]]),(.int .i64 5,.agg [.held [99,104,97,114,116,114,111,111,109,47,100,111,99,117,109,101,110,116,46,101,102,102,101,99,116,115,36,53]]),(.int .i64 6,.agg [.held [99,104,97,114,116,114,111,111,109,47,100,111,99,117,109,101,110,116,46,101,102,102,101,99,116,115,36,54]]),(.int .i64 7,.agg [.held [99,104,97,114,116,114,111,111,109,47,100,111,99,117,109,101,110,116,46,101,102,102,101,99,116,115,36,55]]),(.int .i64 8,.agg [.held [99,104,97,114,116,114,111,111,109,47,100,111,99,117,109,101,110,116,46,101,102,102,101,99,116,115,36,56]])]
theorem eff_out:(DataW.map effT).funcsOut = .map effD:=by
 simp [effT,effD,DataW.funcsOut,DataW.funcsOutEntries,DataW.funcsOutAll]
def eAV (i:Int):AV:=if i=1 then .agg [fnV 251] else if i=2 then .agg [fnV 254] else if i=3 then .agg [fnV 256] else if i=4 then .agg [fnV 260] else if i=5 then .agg [fnV 262] else if i=6 then .agg [fnV 265] else if i=7 then .agg [fnV 268] else if i=8 then .agg [fnV 270] else .dead
def hE (y:Lit × DataW (List UInt8)):Value × AV:=match y.1 with
 | .int .i64 i=>(.int .i64 i,eAV i)
 | _=>(undef,.dead)
theorem eff_cell {W:World} (h:funcsAt Tryz.prog W "chartroom/document.effects" (.map effT)):∃ u,W.cell? ⟨0,0,none⟩=some u∧PRep W (fun _=>False) (.md false effE) u:=by
 refine map_cell hE gE tE Tryz.underlying103 eff_out (by simp [effD,hE,effE,eAV]) (by simp [effD]) (by simp [effE]) (fun {n x y} hy h=>?_) h
 simp only [effD,List.mem_cons,List.not_mem_nil,or_false] at hy
 rcases hy with rfl | rfl | rfl | rfl | rfl | rfl | rfl | rfl
 · exact eff_ent (f0:=251) (by kernel_rfl) h
 · exact eff_ent (f0:=254) (by kernel_rfl) h
 · exact eff_ent (f0:=256) (by kernel_rfl) h
 · exact eff_ent (f0:=260) (by kernel_rfl) h
 · exact eff_ent (f0:=262) (by kernel_rfl) h
 · exact eff_ent (f0:=265) (by kernel_rfl) h
 · exact eff_ent (f0:=268) (by kernel_rfl) h
 · exact eff_ent (f0:=270) (by kernel_rfl) h
abbrev laidZ:List (String × DataW Unit):=[("chartroom/vector.greater",Rows.laid_chartroom_vector_greater),("chartroom/ops.kinds",Rows.laid_chartroom_ops_kinds),("chartroom/document.effects",Rows.laid_chartroom_document_effects)]
theorem globs {W:World} {laid:List (String × DataW Unit)} (hl:laid=laidZ) (h:laidMetH Tryz.prog laid W) :
 ∀ g cs,G g=some cs→PRep W (fun _=>False) (.imm cs) (.pointer (some ⟨g,0,none⟩)):=by
 subst hl
 have h1:W.cell? ⟨2,0,none⟩=some (.func (.func 307) #[] #[]):=rule_cell gG tG (by kernel_rfl) (h.funcs (List.mem_cons_self ..))
 obtain ⟨u,hu,hk⟩:=kinds_cell (h.funcs (List.mem_cons_of_mem _ (List.mem_cons_self ..)))
 obtain ⟨u2,hu2,hk2⟩:=eff_cell (h.funcs (List.mem_cons_of_mem _ (List.mem_cons_of_mem _ (List.mem_cons_self ..))))
 intro g cs hg
 unfold G at hg
 split at hg
 · rename_i e; subst e; cases hg
   exact .imm _ _ (fun _=>_) rfl (fun _ h=>h) (fun j hj=>by match j,hj with | 0,_=>exact h1) (fun j hj=>by match j,hj with | 0,_=>exact .lit _)
 · split at hg
   · rename_i e; subst e; cases hg
     exact .imm _ _ (fun _=>u) rfl (fun _ h=>h) (fun j hj=>by match j,hj with | 0,_=>exact hu) (fun j hj=>by match j,hj with | 0,_=>exact hk)
   · split at hg
     · rename_i e; subst e; cases hg
       exact .imm _ _ (fun _=>u2) rfl (fun _ h=>h) (fun j hj=>by match j,hj with | 0,_=>exact hu2) (fun j hj=>by match j,hj with | 0,_=>exact hk2)
     · cases hg
theorem door_met (os:Os) (args:Array Value):laidMetH Tryz.prog laidZ ((World.doorLaid Tryz.prog 600 os).forCall (fun _ _=>0) ⟨#[],args,[]⟩).memory :=
 laidMetH_of_parts3 (fuel:=8) (laidMet_of_run' 8 (by kernel_rfl) (by kernel_rfl)) (by kernel_rfl) (by kernel_rfl)
end Go.Proofs.YtihbnnkcemjflaaGreatDoor
