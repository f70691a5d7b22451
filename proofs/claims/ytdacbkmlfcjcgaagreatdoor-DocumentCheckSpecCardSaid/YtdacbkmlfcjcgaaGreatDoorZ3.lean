import Derived.Test.YtdacbkmlfcjcgaaGreatDoorZ2
import Derived.Test.YtdacbkmlfcjcgaaGreatDoorCards
import Derived.Test.YtdacbkmlfcjcgaaGreatDoorTie
set_option maxRecDepth 100000
set_option linter.unusedSimpArgs false
set_option linter.unusedVariables false
open List
noncomputable section
namespace Go.Proofs.YtdacbkmlfcjcgaaGreatDoor
open Go Go.Am Go.ChangeShapes Go.WideShapes Go.RowKit Go.eY
theorem gE:Tryz.prog.globalNamed "chartroom/document.effects" = some 0:=zQ
theorem gK:Tryz.prog.globalNamed "chartroom/ops.kinds" = some 1:=zQ
theorem gG:Tryz.prog.globalNamed "chartroom/vector.greater" = some 2:=zQ
theorem tE:(Tryz.prog.globals[0]?).map (·.type)=some 96:=zQ
theorem tK:(Tryz.prog.globals[1]?).map (·.type)=some 143:=zQ
theorem tG:(Tryz.prog.globals[2]?).map (·.type)=some 248:=zQ
theorem cRu:Tryz.prog.cellsOf 248=1:=zQ
theorem cRf:Tryz.prog.cellsOf 246=1:=zQ
theorem cKi:Tryz.prog.cellsOf 141=2:=zQ
theorem cKf:Tryz.prog.cellsOf 84=1:=zQ
theorem cEf:Tryz.prog.cellsOf 95=1:=zQ
theorem cEo:Tryz.prog.cellsOf 93=1:=zQ
theorem cIn:Tryz.prog.cellsOf 3=1:=zQ
variable {r:List UInt8}{b:UInt8}{g f0:Nat}{n:String}{W:World}
theorem VA(hg:Tryz.prog.globalNamed n=some g)(ht:(Tryz.prog.globals[g]?).map (·.type)=some 248)(rY:((List.range Tryz.prog.funcs.size).filter fun f=>(Tryz.prog.funcs[f]?).any (·.name.toUTF8.data.toList==b::r))=[f0])(h:funcsAt Tryz.prog W n (.agg [.iface "func" (.lit (.string (b::r)))])):W.cell? ⟨g,0,none⟩=some (.func (.func f0) #[] #[]):=by
 obtain⟨g',t,cs,fuel,p,hg',ht',hv,hd⟩:=h;obtain rfl:=Option.some.inj (hg.symm.trans hg');obtain rfl:=Option.some.inj (ht.symm.trans ht');obtain⟨xs,m,_,hx,hl,Vz,hf⟩:=DataW.trod_struct Tryz.underlying248 hd;have h0:=hf 0 _ rfl;rw[cRu]at hl;obtain⟨v,jQ⟩:∃v,cs.toList=[v]:=by
  match cs.toList,hl with
  |[v],_=>exact⟨v,rfl⟩
 rw[jQ]at h0;have hc1:((([v]:List Value).drop 0).take (Tryz.prog.cellsOf 246))=[v]:=by rw[cRf];rfl
 have h1:DataW.trod (funcToken Tryz.prog) Tryz.prog W 0 (fun _=>true) true m 246 [v]=xs[0]? := by rw[<- hc1];exact h0
 have hx1:(DataW.agg [.iface "func" (.lit (.string (b::r)))]:DataW Unit).funcsOut = .agg [.held (b::r)]:=by
  simp[DataW.funcsOut,DataW.funcsOutAll]
 rw[hx1]at hx;injection hx with hx2 hx3;injection hx2 with hx4
 match xs,Vz with
 |[y],_ =>
  have hy:y.1 = .held (b::r):=by simpa using hx4.symm
  have h2:DataW.trod (funcToken Tryz.prog) Tryz.prog W 0 (fun _=>true) true m 246 [v]=some (.held (b::r),y.2):=by rw[h1,<- hy];rfl
  obtain rfl:=func_of_trod (f0:=f0) Tryz.underlying246 rY h2;have:=World.var?_cell hg hv 0;rw[Array.eq_one_of_toList jQ]at this;simpa using this
variable {i:Int}{x:MapEntry}
theorem qC{n:Nat}{pt:Int}(rY:((List.range Tryz.prog.funcs.size).filter fun f=>(Tryz.prog.funcs[f]?).any (·.name.toUTF8.data.toList==b::r))=[f0])(h:WideElems.rd Tryz.prog 3 (WideElems.elemAt (funcToken Tryz.prog) Tryz.prog W 0 (fun _=>true) true n 141) x=some (.int .i64 i,.agg [.lit (.int .i64 pt),.held (b::r)])) :
 x.key = .int .i64 i/\dR W (fun _=>False) (.agg [Am.int pt,gP f0]) x.val:=by
 obtain⟨k,hk,e,_⟩:=Maps.keyOf_int_inv Tryz.underlying3 (WideElems.rd_key h);obtain rfl:i=k:=by cases e;rfl
 refine⟨hk,?_⟩;obtain⟨z,hz,hy⟩:=WideElems.rd_val h;unfold WideElems.elemAt at hz;split at hz
 .obtain ⟨xs,m,_,hx,hl,Vz,hf⟩:=DataW.trod_struct Tryz.underlying141 hz;rw[cKi]at hl;have h0:=hf 0 _ rfl;have h1:=hf 1 _ rfl;obtain⟨u,v,jQ⟩:∃u v,x.val.cells.toList=[u,v]:=by
   match x.val.cells.toList,hl with
   |[u,v],_=>exact⟨u,v,rfl⟩
  rw[jQ]at h0 h1;have g0:DataW.trod (funcToken Tryz.prog) Tryz.prog W 0 (fun _=>true) true m 3 [u]=xs[0]? := by
   have:((([u,v]:List Value).drop 0).take (Tryz.prog.cellsOf 3))=[u]:=by rw[cIn];rfl
   rw[<- this];exact h0
  have g1:DataW.trod (funcToken Tryz.prog) Tryz.prog W 0 (fun _=>true) true m 84 [v]=xs[1]? := by
   have:((([u,v]:List Value).drop 1).take (Tryz.prog.cellsOf 84))=[v]:=by rw[cKf];rfl
   rw[<- this];exact h1
  rw[hx]at hy
  match xs,Vz with
  |[y0,y1],_ =>
   simp only[map_cons,map_nil,DataW.agg.injEq,List.cons.injEq,and_true]at hy;obtain⟨k,e1,e2,_⟩:=DataW.trod_int Tryz.underlying3 (show DataW.trod _ Tryz.prog W 0 _ true m 3 [u]=some y0 from g0);obtain rfl:pt=k:=by rw[e2]at hy;simpa using hy.1
   have hu:u = .int .i64 pt:=by simpa using e1
   have h2:DataW.trod (funcToken Tryz.prog) Tryz.prog W 0 (fun _=>true) true m 84 [v]=some (.held (b::r),y1.2):=by rw[g1,hy.2];rfl
   have hv:=func_of_trod (f0:=f0) Tryz.underlying84 rY h2;have Cb:x.val = .agg #[u,v]:=by
    cases hc:x.val<;>rw[hc]at jQ<;>simp[Value.cells]at jQ
    rename_i cs;obtain⟨l⟩:=cs;simp at jQ;rw[jQ]
   rw[Cb,hu,hv];refine .agg _ [_,_] rfl fun j hj=>?_
   match j,hj with
   |0,_=>exact .lit _
   |1,_=>exact .lit _
 .cases hz
theorem uU{n:Nat}(rY:((List.range Tryz.prog.funcs.size).filter fun f=>(Tryz.prog.funcs[f]?).any (·.name.toUTF8.data.toList==b::r))=[f0])(h:WideElems.rd Tryz.prog 3 (WideElems.elemAt (funcToken Tryz.prog) Tryz.prog W 0 (fun _=>true) true n 95) x=some (.int .i64 i,.agg [.held (b::r)])) :
 x.key = .int .i64 i/\dR W (fun _=>False) (.agg [gP f0]) x.val:=by
 obtain⟨k,hk,e,_⟩:=Maps.keyOf_int_inv Tryz.underlying3 (WideElems.rd_key h);obtain rfl:i=k:=by cases e;rfl
 refine⟨hk,?_⟩;obtain⟨z,hz,hy⟩:=WideElems.rd_val h;unfold WideElems.elemAt at hz;split at hz
 .rename_i aeg;obtain⟨xs,m,_,hx,hl,Vz,hf⟩:=DataW.trod_struct Tryz.underlying95 hz;rw[cEf]at hl;have h1:=hf 0 _ rfl;obtain⟨v,jQ⟩:∃v,x.val.cells.toList=[v]:=by
   match x.val.cells.toList,hl with
   |[v],_=>exact⟨v,rfl⟩
  rw[jQ]at h1;have g1:DataW.trod (funcToken Tryz.prog) Tryz.prog W 0 (fun _=>true) true m 93 [v]=xs[0]? := by
   have:((([v]:List Value).drop 0).take (Tryz.prog.cellsOf 93))=[v]:=by rw[cEo];rfl
   rw[<- this];exact h1
  rw[hx]at hy
  match xs,Vz with
  |[y1],_ =>
   simp only[map_cons,map_nil,DataW.agg.injEq,List.cons.injEq,and_true]at hy;have h2:DataW.trod (funcToken Tryz.prog) Tryz.prog W 0 (fun _=>true) true m 93 [v]=some (.held (b::r),y1.2):=by rw[g1,hy];rfl
   have hv:=func_of_trod (f0:=f0) Tryz.underlying93 rY h2;have Cb:x.val = .agg #[v]:=by
    cases hc:x.val<;>rw[hc]at aeg<;>simp only[Value.formed,Tryz.underlying95,y20]at aeg
    rw[hc]at jQ;rename_i cs;obtain⟨l⟩:=cs;obtain rfl:l=[v]:=jQ;rfl
   rw[Cb,hv];refine .agg _ [_] rfl fun j hj=>?_
   match j,hj with
   |0,_=>exact .lit _
 .cases hz
theorem getD_map{α β:Type}g(l:List α)(j:Nat)h(d:β):(l.map g).getD j d=g l[j]:=by
 rw[yB,getElem?_map,yA h];rfl
theorem map_cell{mt et:Nat}{T:List (Lit×DataW Unit)}{D:List (Lit×DataW (List UInt8))}{E:List (Value×AV)}(hK:Lit×DataW (List UInt8)->Value×AV)(hg:Tryz.prog.globalNamed n=some g)(ht:(Tryz.prog.globals[g]?).map (·.type)=some mt)(hu:Tryz.prog.underlying mt=some (.map 3 et))(zm:(DataW.map T).funcsOut = .map D)(hE:D.map hK=E)(fF:D≠[])(wO:(E.map (·.1)).Nodup)(vN:∀{n:Nat}{x:MapEntry}{y:Lit×DataW (List UInt8)},y∈D->WideElems.rd Tryz.prog 3 (WideElems.elemAt (funcToken Tryz.prog) Tryz.prog W 0 (fun _=>true) true n et) x=some y->x.key=(hK y).1/\dR W (fun _=>False) (hK y).2 x.val)(h:funcsAt Tryz.prog W n (.map T)):∃u,W.cell? ⟨g,0,none⟩=some u/\dR W (fun _=>False) (.md false E) u:=by
 obtain⟨g',t,cs,fuel,p,hg',ht',hv,hd⟩:=h;obtain rfl:=Option.some.inj (hg.symm.trans hg');obtain rfl:=Option.some.inj (ht.symm.trans ht');rw[zm]at hd;rcases WideElems.open_map hu hd with⟨_,hx⟩|⟨b,es,clock,n,rfl,jQ,hb,_,F,hx⟩
 .simp [fF]at hx
 .simp only[Prod.mk.injEq,DataW.map.injEq]at hx;have lT:=World.var?_cell hg hv 0;rw[Array.eq_one_of_toList jQ]at lT;refine⟨.map (some b),by simpa using lT,?_⟩;have hp:=sorted_perm (es.toList.map (WideElems.rg Tryz.prog 3 (WideElems.elemAt (funcToken Tryz.prog) Tryz.prog W 0 (fun _=>true) true n et)));rw[<- hx.1]at hp;have key:∀x∈es.toList,x.key=(hK (WideElems.rg Tryz.prog 3 (WideElems.elemAt (funcToken Tryz.prog) Tryz.prog W 0 (fun _=>true) true n et) x)).1/\dR W (fun _=>False) (hK (WideElems.rg Tryz.prog 3 (WideElems.elemAt (funcToken Tryz.prog) Tryz.prog W 0 (fun _=>true) true n et) x)).2 x.val:=fun x hx'=>by
   obtain⟨y,hy⟩:=F.reads x hx';have hm:WideElems.rg Tryz.prog 3 (WideElems.elemAt (funcToken Tryz.prog) Tryz.prog W 0 (fun _=>true) true n et) x∈D:=hp.mem_iff.2 (mem_map_of_mem hx');rw[WideElems.rg_of hy]at hm |-;exact vN hm hy
  have hp2:=(hp.map hK).symm;rw[hE,map_map]at hp2;refine .md false E _ hp2 b es.toList clock (fun h=>h) (by simpa using hb) ?_ ?_ (fun j hj=>?_) (fun h=>(by cases h))
  .rw [map_map];exact map_congr_left fun x hx'=>(key x hx').1
  .exact (hp2.map _).nodup_iff.2 wO
  .rw [y10]at hj;unfold uq gI;rw[getD_map _ _ _ hj,yB,yA hj];exact(key _ (y03 hj)).2
def RI:List (Lit×DataW Unit):=[(.int .i64 1,.agg [.lit (.int .i64 1),.iface "func" (.lit (.string [99,104,97,114,116,114,111,111,109,47,111,112,115,46,107,105,110,100,115,36,49]))]),(.int .i64 2,.agg [.lit (.int .i64 1),.iface "func" (.lit (.string [99,104,97,114,116,114,111,111,109,47,111,112,115,46,107,105,110,100,115,36,50]))]),(.int .i64 3,.agg [.lit (.int .i64 2),.iface "func" (.lit (.string [99,104,97,114,116,114,111,111,109,47,111,112,115,46,107,105,110,100,115,36,51]))]),(.int .i64 4,.agg [.lit (.int .i64 2),.iface "func" (.lit (.string [99,104,97,114,116,114,111,111,109,47,111,112,115,46,107,105,110,100,115,36,52]))]),(.int .i64 5,.agg [.lit (.int .i64 3),.iface "func" (.lit (.string [99,104,97,114,116,114,111,111,109,47,111,112,115,46,107,105,110,100,115,36,53]))]),(.int .i64 6,.agg [.lit (.int .i64 4),.iface "func" (.lit (.string [99,104,97,114,116,114,111,111,109,47,111,112,115,46,107,105,110,100,115,36,54]))]),(.int .i64 7,.agg [.lit (.int .i64 4),.iface "func" (.lit (.string [99,104,97,114,116,114,111,111,109,47,111,112,115,46,107,105,110,100,115,36,55]))]),(.int .i64 8,.agg [.lit (.int .i64 4),.iface "func" (.lit (.string [99,104,97,114,116,114,111,111,109,47,111,112,115,46,107,105,110,100,115,36,56]))])]
def IK:List (Lit×DataW (List UInt8)):=[(.int .i64 1,.agg [.lit (.int .i64 1),.held [99,104,97,114,116,114,111,111,109,47,111,112,115,46,107,105,110,100,115,36,49]]),(.int .i64 2,.agg [.lit (.int .i64 1),.held [99,104,97,114,116,114,111,111,109,47,111,112,115,46,107,105,110,100,115,36,50]]),(.int .i64 3,.agg [.lit (.int .i64 2),.held [99,104,97,114,116,114,111,111,109,47,111,112,115,46,107,105,110,100,115,36,51]]),(.int .i64 4,.agg [.lit (.int .i64 2),.held [99,104,97,114,116,114,111,111,109,47,111,112,115,46,107,105,110,100,115,36,52]]),(.int .i64 5,.agg [.lit (.int .i64 3),.held [99,104,97,114,116,114,111,111,109,47,111,112,115,46,107,105,110,100,115,36,53]]),(.int .i64 6,.agg [.lit (.int .i64 4),.held [99,104,97,114,116,114,111,111,109,47,111,112,115,46,107,105,110,100,115,36,54]]),(.int .i64 7,.agg [.lit (.int .i64 4),.held [99,104,97,114,116,114,111,111,109,47,111,112,115,46,107,105,110,100,115,36,55]]),(.int .i64 8,.agg [.lit (.int .i64 4),.held [99,104,97,114,116,114,111,111,109,47,111,112,115,46,107,105,110,100,115,36,56]])]
theorem VB:(DataW.map RI).funcsOut = .map IK:=by
 simp[RI,IK,DataW.funcsOut,DataW.funcsOutEntries,DataW.funcsOutAll]
def kAV(i:Int):AV:=if i=1 then .agg [Am.int 1,gP 400]else if i=2 then .agg [Am.int 1,gP 402]else if i=3 then .agg [Am.int 2,gP 404]else if i=4 then .agg [Am.int 2,gP 405]else if i=5 then .agg [Am.int 3,gP 406]else if i=6 then .agg [Am.int 4,gP 407]else if i=7 then .agg [Am.int 4,gP 408]else if i=8 then .agg [Am.int 4,gP 409]else .aP
def hK(y:Lit×DataW (List UInt8)):Value×AV:=match y.1 with
 |.int .i64 i=>(.int .i64 i,kAV i)
 |_=>(undef,.aP)
theorem RJ(h:funcsAt Tryz.prog W "chartroom/ops.kinds" (.map RI)):∃u,W.cell? ⟨1,0,none⟩=some u/\dR W (fun _=>False) (.md false iF) u:=by
 refine map_cell hK gK tK Tryz.underlying143 VB (by simp[IK,hK,iF,kAV]) (by simp[IK]) (by simp[iF]) (fun{n x y} hy h=>?_) h;simp only[IK,yH,y12,or_false]at hy;rcases hy with rfl|rfl|rfl|rfl|rfl|rfl|rfl|rfl
 .exact qC (f0:=400) zQ h
 .exact qC (f0:=402) zQ h
 .exact qC (f0:=404) zQ h
 .exact qC (f0:=405) zQ h
 .exact qC (f0:=406) zQ h
 .exact qC (f0:=407) zQ h
 .exact qC (f0:=408) zQ h
 .exact qC (f0:=409) zQ h
def af3:List (Lit×DataW Unit):=[(.int .i64 1,.agg [.iface "func" (.lit (.string [99,104,97,114,116,114,111,111,109,47,100,111,99,117,109,101,110,116,46,101,102,102,101,99,116,115,36,49]))]),(.int .i64 2,.agg [.iface "func" (.lit (.string [99,104,97,114,116,114,111,111,109,47,100,111,99,117,109,101,110,116,46,101,102,102,101,99,116,115,36,50]))]),(.int .i64 3,.agg [.iface "func" (.lit (.string [99,104,97,114,116,114,111,111,109,47,100,111,99,117,109,101,110,116,46,101,102,102,101,99,116,115,36,51]))]),(.int .i64 4,.agg [.iface "func" (.lit (.string [99,104,97,114,116,114,111,111,109,47,100,111,99,117,109,101,110,116,46,101,102,102,101,99,116,115,36,52]))]),(.int .i64 5,.agg [.iface "func" (.lit (.string [99,104,97,114,116,114,111,111,109,47,100,111,99,117,109,101,110,116,46,101,102,102,101,99,116,115,36,53]))]),(.int .i64 6,.agg [.iface "func" (.lit (.string [99,104,97,114,116,114,111,111,109,47,100,111,99,117,109,101,110,116,46,101,102,102,101,99,116,115,36,54]))]),(.int .i64 7,.agg [.iface "func" (.lit (.string [99,104,97,114,116,114,111,111,109,47,100,111,99,117,109,101,110,116,46,101,102,102,101,99,116,115,36,55]))]),(.int .i64 8,.agg [.iface "func" (.lit (.string [99,104,97,114,116,114,111,111,109,47,100,111,99,117,109,101,110,116,46,101,102,102,101,99,116,115,36,56]))])]
def Za:List (Lit×DataW (List UInt8)):=[(.int .i64 1,.agg [.held [99,104,97,114,116,114,111,111,109,47,100,111,99,117,109,101,110,116,46,101,102,102,101,99,116,115,36,49]]),(.int .i64 2,.agg [.held [99,104,97,114,116,114,111,111,109,47,100,111,99,117,109,101,110,116,46,101,102,102,101,99,116,115,36,50]]),(.int .i64 3,.agg [.held [99,104,97,114,116,114,111,111,109,47,100,111,99,117,109,101,110,116,46,101,102,102,101,99,116,115,36,51]]),(.int .i64 4,.agg [.held [99,104,97,114,116,114,111,111,109,47,100,111,99,117,109,101,110,116,46,101,102,102,101,99,116,115,36,52]]),(.int .i64 5,.agg [.held [99,104,97,114,116,114,111,111,109,47,100,111,99,117,109,101,110,116,46,101,102,102,101,99,116,115,36,53]]),(.int .i64 6,.agg [.held [99,104,97,114,116,114,111,111,109,47,100,111,99,117,109,101,110,116,46,101,102,102,101,99,116,115,36,54]]),(.int .i64 7,.agg [.held [99,104,97,114,116,114,111,111,109,47,100,111,99,117,109,101,110,116,46,101,102,102,101,99,116,115,36,55]]),(.int .i64 8,.agg [.held [99,104,97,114,116,114,111,111,109,47,100,111,99,117,109,101,110,116,46,101,102,102,101,99,116,115,36,56]])]
theorem acB:(DataW.map af3).funcsOut = .map Za:=by
 simp[af3,Za,DataW.funcsOut,DataW.funcsOutEntries,DataW.funcsOutAll]
def eAV(i:Int):AV:=if i=1 then .agg [gP 354]else if i=2 then .agg [gP 357]else if i=3 then .agg [gP 359]else if i=4 then .agg [gP 363]else if i=5 then .agg [gP 365]else if i=6 then .agg [gP 368]else if i=7 then .agg [gP 371]else if i=8 then .agg [gP 373]else .aP
def hE(y:Lit×DataW (List UInt8)):Value×AV:=match y.1 with
 |.int .i64 i=>(.int .i64 i,eAV i)
 |_=>(undef,.aP)
theorem Zb(h:funcsAt Tryz.prog W "chartroom/document.effects" (.map af3)):∃u,W.cell? ⟨0,0,none⟩=some u/\dR W (fun _=>False) (.md false oK) u:=by
 refine map_cell hE gE tE Tryz.underlying96 acB (by simp[Za,hE,oK,eAV]) (by simp[Za]) (by simp[oK]) (fun{n x y} hy h=>?_) h;simp only[Za,yH,y12,or_false]at hy;rcases hy with rfl|rfl|rfl|rfl|rfl|rfl|rfl|rfl
 .exact uU (f0:=354) zQ h
 .exact uU (f0:=357) zQ h
 .exact uU (f0:=359) zQ h
 .exact uU (f0:=363) zQ h
 .exact uU (f0:=365) zQ h
 .exact uU (f0:=368) zQ h
 .exact uU (f0:=371) zQ h
 .exact uU (f0:=373) zQ h
theorem azM:Tryz.prog.globalNamed "math/bits.deBruijn32tab" = some 3:=zQ
theorem azN:(Tryz.prog.globals[3]?).map (·.type)=some 343:=zQ
theorem axc(h:laidMet Tryz.prog [("math/bits.deBruijn32tab",Rows.laid_math_bits_deBruijn32tab)] W):∀j (hj:j<32),W.cell? ⟨3,j,none⟩=some (.int .u8 (atP.getD j 0)):=by
 obtain⟨_,⟨g',t,cs,fuel,p,q,hg,ht,hv,hd,_,_⟩,_⟩:=h;obtain rfl:=Option.some.inj (azM.symm.trans hg);obtain rfl:=Option.some.inj (azN.symm.trans ht);obtain⟨xs,m,_,hx,hl,Vz,hf⟩:=DataW.trod_array Tryz.underlying343 hd;have hx1:xs.map (·.1)=atP.map fun n=>DataW.lit (.int .u8 n):=by
  have:=(Prod.mk.inj hx).1;exact(DataW.agg.inj this).symm
 have bL:cs.toList.length=32:=hl.trans zQ;intro j hj;have h1:=hf j hj;have hjx:j<xs.length:=zO
 rw[show Tryz.prog.cellsOf 5=1 by kernel_rfl,Nat.mul_one,yA hjx]at h1;obtain⟨n,e1,e2,_⟩:=DataW.trod_int Tryz.underlying5 h1;have hj2:j<cs.toList.length:=zO
 rw[take_one,head?_drop,yA hj2]at e1;have e1:cs.toList[j] = .int .u8 n:=by simpa using e1
 have e3:(xs.map (·.1))[j]?=some (.lit (.int .u8 n)):=by rw[getElem?_map,yA hjx,e2];rfl
 rw[hx1,getElem?_map]at e3;have hjt:j<atP.length:=hj;rw[yA hjt]at e3;have e4:atP[j]=n:=by simpa using e3
 have:=World.var?_cell azM hv j;rw[this,yB,yA hjt];have h5:cs[j]?=some cs.toList[j]:=by rw[<- Array.getElem?_toList,yA hj2]
 rw[h5,e1,<- e4];rfl
abbrev aeh:List (String×DataW Unit):=[("math/bits.deBruijn32tab",Rows.laid_math_bits_deBruijn32tab),("chartroom/vector.greater",Rows.laid_chartroom_vector_greater),("chartroom/ops.kinds",Rows.laid_chartroom_ops_kinds),("chartroom/document.effects",Rows.laid_chartroom_document_effects)]
theorem ajN{laid:List (String×DataW Unit)}(hl:laid=aeh)(h:laidMetH Tryz.prog laid W) :
 ∀g cs,G g=some cs->dR W (fun _=>False) (.iG cs) (.pointer (some ⟨g,0,none⟩)):=by
 subst hl;have h0:laidMet Tryz.prog [("math/bits.deBruijn32tab",Rows.laid_math_bits_deBruijn32tab)] W:=(show laidMet Tryz.prog [("math/bits.deBruijn32tab",Rows.laid_math_bits_deBruijn32tab)] W/\_ from h).1;have h1:W.cell? ⟨2,0,none⟩=some (.func (.func 410) #[] #[]):=VA gG tG zQ (h.funcs (yF _ (mem_cons_self ..)));obtain⟨u,hu,hk⟩:=RJ (h.funcs (yF _ (yF _ (mem_cons_self ..))));obtain⟨u2,VD,Oc⟩:=Zb (h.funcs (yF _ (yF _ (yF _ (mem_cons_self ..)))));intro g cs hg;unfold G at hg;split at hg
 .rename_i e;subst e;cases hg;exact .iG _ _ (fun _=>_) rfl (fun _ h=>h) (fun j hj=>by match j,hj with|0,_=>exact h1) (fun j hj=>by match j,hj with|0,_=>exact .lit _)
 .split at hg
  .rename_i e;subst e;cases hg;exact .iG _ _ (fun _=>u) rfl (fun _ h=>h) (fun j hj=>by match j,hj with|0,_=>exact hu) (fun j hj=>by match j,hj with|0,_=>exact hk)
  .split at hg
   .rename_i e;subst e;cases hg;exact .iG _ _ (fun _=>u2) rfl (fun _ h=>h) (fun j hj=>by match j,hj with|0,_=>exact VD) (fun j hj=>by match j,hj with|0,_=>exact Oc)
   .split at hg
    .rename_i e;subst e;cases hg;exact .iG _ _ (fun j=>.int .u8 (atP.getD j 0)) rfl (fun _ h=>h) (fun j hj=>by rw[y09];exact axc h0 j (by simpa[tab,atP]using hj)) (fun j hj=>by
      have hj:j<32:=by simpa[tab,atP]using hj
      have:tab.getD j .aP = .lit (.int .u8 (atP.getD j 0)):=by
       unfold tab;rw[yB,getElem?_map,yB,yA (show j<atP.length from hj)];rfl
      rw[this];exact .lit _)
    .cases hg
theorem Zc(os:Os)(args:Array Value):laidMetH Tryz.prog aeh ((World.doorLaid Tryz.prog 600 os).forCall (fun _ _=>0) ⟨#[],args,[]⟩).memory :=
 laidMetH_of_parts3 (fuel:=8) (laidMet_of_run' 8 zQ zQ) zQ zQ
end Go.Proofs.YtdacbkmlfcjcgaaGreatDoor
