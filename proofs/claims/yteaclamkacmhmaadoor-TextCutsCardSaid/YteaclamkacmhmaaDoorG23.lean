import Derived.Test.YteaclamkacmhmaaDoorG22
import Derived.OpenShut
import Derived.LaidMore
import Derived.Test.YteaclamkacmhmaaDoorRows
import Derived.KernelRfl
set_option maxRecDepth 100000
set_option linter.unusedSimpArgs false
set_option linter.unusedVariables false

namespace Go.Tx
open Go Go.Am Go.Proofs Go.Seat
open Go.Sq (CE cel ces ida idv pid fX fiO OkRs OkR chkE)
theorem cz3:Tryd.prog.cellsOf 3=1:=by kernel_rfl
theorem cz4:Tryd.prog.cellsOf 4=1:=by kernel_rfl
theorem cz5:Tryd.prog.cellsOf 5=1:=by kernel_rfl
theorem cz9:Tryd.prog.cellsOf 9=1:=by kernel_rfl
theorem czCs:Tryd.prog.cellsOf 22=1:=by kernel_rfl
theorem czMs:Tryd.prog.cellsOf 23=1:=by kernel_rfl
theorem czID:Tryd.prog.cellsOf 45=3:=by kernel_rfl
theorem czD:Tryd.prog.cellsOf 43=2:=by kernel_rfl
theorem czC:Tryd.prog.cellsOf 58=9:=by kernel_rfl
theorem czM:Tryd.prog.cellsOf 47=11:=by kernel_rfl
theorem czT:Tryd.prog.cellsOf 25=2:=by kernel_rfl
noncomputable def cInt:Cod Tryd.prog 3 Int:=Cod.int Tryd.underlying3 cz3
noncomputable def cStr:Cod Tryd.prog 9 ByteArray:=Cod.str Tryd.underlying9 cz9
noncomputable def cBool:Cod Tryd.prog 4 Bool:=Cod.bool Tryd.underlying4 cz4
noncomputable def cDot:Cod Tryd.prog 43 (Int × Int):=Cod.struct Tryd.underlying43 (by kernel_rfl) (FCod.cons cInt rfl (FCod.cons cInt (by kernel_rfl) FCod.nil)) (fun a=>(a.1,a.2.1)) (fun a=>[Am.int a.1,Am.int a.2]) (fun _=>rfl) (fun _=>czD.symm)
noncomputable def cID:Cod Tryd.prog 45 (Int × Int × Int):=Cod.struct Tryd.underlying45 (by kernel_rfl) (FCod.cons cInt rfl (FCod.cons cInt (by kernel_rfl) (FCod.cons cInt (by kernel_rfl) FCod.nil))) (fun a=>(a.1,a.2.1,a.2.2.1)) (fun a=>[Am.int a.1,Am.int a.2.1,Am.int a.2.2]) (fun _=>rfl) (fun _=>czID.symm)
abbrev AC:=(Int × Int × Int) × (Int × Int × Int) × Int × ByteArray × Bool × Unit
noncomputable def cCE:Cod Tryd.prog 58 CE:=Cod.struct Tryd.underlying58 (by kernel_rfl) (FCod.cons cID rfl (FCod.cons cID (by kernel_rfl) (FCod.cons cInt (by kernel_rfl) (FCod.cons cStr (by kernel_rfl) (FCod.cons cBool (by kernel_rfl) FCod.nil)))))
 (fun a:AC=>⟨a.1.1,a.1.2.1,a.1.2.2,a.2.1.1,a.2.1.2.1,a.2.1.2.2,a.2.2.1,a.2.2.2.1,a.2.2.2.2.1⟩) Sq.enc (fun a:AC=>rfl) (fun _=>czC.symm)
noncomputable def cCells:Cod Tryd.prog 22 (List CE):=Cod.slice Tryd.underlying22 czCs (by rw [czC]; decide) cCE
theorem cCells_enc (v:List CE):cCells.enc v=[ces v]:=by
 show [AV.sl (Tryd.prog.cellsOf 58) false (v.map Sq.enc)]=[AV.sl 9 false (v.map Sq.enc)]
 rw [czC]
abbrev AMk:=(Int × Int) × Int × (Int × Int × Int) × (Int × Int × Int) × Int × Bool × Unit
noncomputable def cMK:Cod Tryd.prog 47 MK:=Cod.struct Tryd.underlying47 (by kernel_rfl) (FCod.cons cDot rfl (FCod.cons cInt (by kernel_rfl) (FCod.cons cID (by kernel_rfl) (FCod.cons cID (by kernel_rfl) (FCod.cons cInt (by kernel_rfl) (FCod.cons cBool (by kernel_rfl) FCod.nil))))))
 (fun a:AMk=>⟨a.1.1,a.1.2,a.2.1,a.2.2.1.1,a.2.2.1.2.1,a.2.2.1.2.2,a.2.2.2.1.1,a.2.2.2.1.2.1,a.2.2.2.1.2.2,a.2.2.2.2.1,a.2.2.2.2.2.1⟩) enc (fun a:AMk=>rfl) (fun _=>czM.symm)
noncomputable def cMarks:Cod Tryd.prog 23 (List MK):=Cod.slice Tryd.underlying23 czMs (by rw [czM]; decide) cMK
theorem cMarks_enc (v:List MK):cMarks.enc v=[mks v]:=by
 show [AV.sl (Tryd.prog.cellsOf 47) false (v.map enc)]=[AV.sl 11 false (v.map enc)]
 rw [czM]
abbrev AT:=List CE × List MK × Unit
noncomputable def cTE:Cod Tryd.prog 25 TE:=Cod.struct Tryd.underlying25 (by kernel_rfl) (FCod.cons cCells rfl (FCod.cons cMarks (by kernel_rfl) FCod.nil)) (fun a:AT=>⟨a.1,a.2.1⟩) (fun t=>[ces t.cells,mks t.marks]) (fun a:AT=>by
 show [ces a.1,mks a.2.1]=cCells.enc a.1++(cMarks.enc a.2.1++[])
 rw [cCells_enc,cMarks_enc]; rfl) (fun _=>czT.symm)
theorem cDot_ok {i:Int × Int} (h:cDot.good i):InR i.1∧InR i.2:=by
 obtain ⟨⟨_,_,_⟩,rfl,f1,f2,_⟩:=h
 exact ⟨f1,f2⟩
theorem cID_ok {i:Int × Int × Int} (h:cID.good i):InR i.1∧InR i.2.1∧InR i.2.2:=by
 obtain ⟨⟨_,_,_,_⟩,rfl,f1,f2,f3,_⟩:=h
 exact ⟨f1,f2,f3⟩
def SzC (l:List CE):Prop:=∀ x∈l,x.vl.size≤9223372036854775807
theorem cCE_ok {c:CE} (h:cCE.good c):OkR c∧c.vl.size≤9223372036854775807∧InR c.tm:=by
 obtain ⟨⟨_,_,_,_,_,_⟩,rfl,f1,f2,f3,f4,_⟩:=h
 exact ⟨⟨cID_ok f1,cID_ok f2⟩,f4,f3⟩
theorem cMK_ok {m:MK} (h:cMK.good m):OkM m:=by
 obtain ⟨⟨_,_,_,_,_,_,_⟩,rfl,f1,f2,f3,f4,f5,_⟩:=h
 have h1:=cDot_ok f1
 have h3:=cID_ok f3
 have h4:=cID_ok f4
 exact ⟨h1.1,h1.2,f2,h3.1,h3.2.1,h3.2.2,h4.1,h4.2.1,h4.2.2,f5⟩
theorem cTE_ok {t:TE} (h:cTE.good t):OkT t∧SzC t.cells∧∀ x∈t.cells,InR x.tm:=by
 obtain ⟨⟨_,_,_⟩,rfl,f1,f2,_⟩:=h
 exact ⟨⟨fun x hx=>(cCE_ok (f1.2 x hx)).1,fun x hx=>cMK_ok (f2.2 x hx)⟩,fun x hx=>(cCE_ok (f1.2 x hx)).2.1,fun x hx=>(cCE_ok (f1.2 x hx)).2.2⟩
section
variable {H:Type} {en:TypeId × Value→H} {W:World} {base:Nat} {v:Value} {d:DataW H} {ps:List MemPlace}
theorem reads_agg {α:Type} {t:TypeId} {fs:Array Field} (c:Cod Tryd.prog t α) (hu:Tryd.prog.underlying t=some (.struct fs)) (hv:Value.okWide Tryd.prog W .any base t v) (h:DataW.Trod en Tryd.prog W 0 (fun _=>true) true t v d ps):∃ a,c.good a∧Rep (view0 W) (.agg (c.enc a)) v:=by
 have hagg:∃ cs,v = .agg cs:=by
  unfold Value.okWide at hv
  rw [hu] at hv
  exact ⟨_,hv.choose_spec.1⟩
 obtain ⟨⟨cs⟩,rfl⟩:=hagg
 obtain ⟨n,hn⟩:=h
 have hn':DataW.trod en Tryd.prog W 0 (fun _=>true) true n t cs=some (d,ps):=hn
 obtain ⟨o,g,hl,hp⟩:=c.rd hn'
 exact ⟨o,g,.agg _ _ hl fun j hj=>.pure _ _ (hp j (by rw [hl]; exact hj)).1⟩
theorem reads_text (hv:Value.okWide Tryd.prog W .any base 25 v) (h:DataW.Trod en Tryd.prog W 0 (fun _=>true) true 25 v d ps):∃ t:TE,(OkT t∧SzC t.cells∧∀ x∈t.cells,InR x.tm)∧Rep (view0 W) (txt t) v:=by
 obtain ⟨a,h1,h2⟩:=reads_agg cTE Tryd.underlying25 hv h
 exact ⟨a,cTE_ok h1,h2⟩
theorem reads_id (hv:Value.okWide Tryd.prog W .any base 45 v) (h:DataW.Trod en Tryd.prog W 0 (fun _=>true) true 45 v d ps):∃ i:Int × Int × Int,(InR i.1∧InR i.2.1∧InR i.2.2)∧Rep (view0 W) (ida i.1 i.2.1 i.2.2) v:=by
 obtain ⟨a,h1,h2⟩:=reads_agg cID Tryd.underlying45 hv h
 exact ⟨a,cID_ok h1,h2⟩
theorem reads_int (hv:Value.okWide Tryd.prog W .any base 3 v) (h:DataW.Trod en Tryd.prog W 0 (fun _=>true) true 3 v d ps):∃ n:Int,InR n∧Rep (view0 W) (Am.int n) v :=
 cInt.one (by kernel_rfl) hv h (mk:=Am.int) (fun _=>rfl)
end
theorem gT:Tryd.prog.globalNamed "math/bits.deBruijn32tab" = some 0:=by kernel_rfl
theorem tT:(Tryd.prog.globals[0]?).map (·.type)=some 124:=by kernel_rfl
theorem globs {W:World} (h:laidMetH Tryd.prog [("math/bits.deBruijn32tab",Go.Proofs.YteaclamkacmhmaaDoor.Rows.laid_math_bits_deBruijn32tab)] W):∀ g cs,G g=some cs→PRep W (fun _=>False) (.imm cs) (.pointer (some ⟨g,0,none⟩)):=by
 have h:laidMet Tryd.prog [("math/bits.deBruijn32tab",Go.Proofs.YteaclamkacmhmaaDoor.Rows.laid_math_bits_deBruijn32tab)] W:=h
 obtain ⟨_,⟨g',t,cs,fuel,p,q,hg,ht,hv,hd,_,_⟩,_⟩:=h
 obtain rfl:=Option.some.inj (gT.symm.trans hg)
 obtain rfl:=Option.some.inj (tT.symm.trans ht)
 obtain ⟨xs,m,_,hx,hl,hxl,hf⟩:=DataW.trod_array Tryd.underlying124 hd
 have hx1:xs.map (·.1)=tabB.map fun n=>DataW.lit (.int .u8 n):=by
  have:=(Prod.mk.inj hx).1
  exact (DataW.agg.inj this).symm
 have hlen:cs.toList.length=32:=hl.trans (by kernel_rfl)
 have cell:∀ j (hj:j<32),W.cell? ⟨0,j,none⟩=some (.int .u8 (tabB.getD j 0)):=fun j hj=>by
  have h1:=hf j hj
  have hjx:j<xs.length:=by omega
  rw [cz5,Nat.mul_one,List.getElem?_eq_getElem hjx] at h1
  obtain ⟨n,e1,e2,_⟩:=DataW.trod_int Tryd.underlying5 h1
  have hj2:j<cs.toList.length:=by omega
  rw [List.take_one,List.head?_drop,List.getElem?_eq_getElem hj2] at e1
  have e1:cs.toList[j] = .int .u8 n:=by simpa using e1
  have e3:(xs.map (·.1))[j]? = some (.lit (.int .u8 n)):=by rw [List.getElem?_map,List.getElem?_eq_getElem hjx,e2]; rfl
  rw [hx1,List.getElem?_map] at e3
  have hjt:j<tabB.length:=hj
  rw [List.getElem?_eq_getElem hjt] at e3
  have e4:tabB[j]=n:=by simpa using e3
  have:=World.var?_cell gT hv j
  rw [this,List.getD_eq_getElem?_getD,List.getElem?_eq_getElem hjt]
  have h5:cs[j]? = some cs.toList[j]:=by rw [← Array.getElem?_toList,List.getElem?_eq_getElem hj2]
  rw [h5,e1,← e4]
  rfl
 intro g cs' hg'
 unfold G at hg'
 split at hg'
 · rename_i e
   subst e
   cases hg'
   exact .imm _ _ (fun j=>.int .u8 (tabB.getD j 0)) rfl (fun _ h=>h) (fun j hj=>by rw [Nat.zero_add]; exact cell j (by simpa [tab,tabB] using hj)) (fun j hj=>by
    have hj:j<32:=by simpa [tab,tabB] using hj
    have:tab.getD j .dead = .lit (.int .u8 (tabB.getD j 0)):=by
     unfold tab
     rw [List.getD_eq_getElem?_getD,List.getElem?_map,List.getD_eq_getElem?_getD,List.getElem?_eq_getElem (show j<tabB.length from hj)]
     rfl
    rw [this]
    exact .lit _)
 · cases hg'
theorem door_met (os:Os) (args:Array Value):laidMetH Tryd.prog [("math/bits.deBruijn32tab",Go.Proofs.YteaclamkacmhmaaDoor.Rows.laid_math_bits_deBruijn32tab)] ((World.doorLaid Tryd.prog 600 os).forCall (fun _ _=>0) ⟨#[],args,[]⟩).memory :=
 laidMetH_of_parts3 (fuel:=8) (laidMet_of_run' 8 (by kernel_rfl) (by kernel_rfl)) (by kernel_rfl) (by kernel_rfl)
end Go.Tx


namespace Go.Tx
open Go Go.Am Go.Proofs Go.Seat
open Go.Sq (CE cel ces ida idv pid fX fiO OkRs OkR chkE)
def tuH (t x:TE) (a b c:Int):List AObj:=[sbT t,.box [int a,int b,int c],sbT x,sbT x]
def tuS (t x:TE) (a b c n:Int) (met k:Nat):St:={ env:=slots 161 [(2,int n),(3,.ptr 0 0),(4,.ptr 1 0),(7,.ptr 2 0),(11,int met),(12,int k)],H:=tuH t x a b c }
def tuX (t x:TE) (a b c n:Int) (met:Nat):St:={ env:=slots 161 [(2,int n),(11,int met)],H:=tuH t x a b c }
def tuR (t x:TE) (a b c n:Int) (met k:Nat) (u v:CE):St:={ env:=slots 161 [(2,int n),(3,.ptr 0 0),(4,.ptr 1 0),(7,.ptr 2 0),(11,int met),(12,int k),(13,.ptr 4 0),(14,.ptr 5 0)],H:=tuH t x a b c++[.box (Sq.enc u),.box (Sq.enc v)] }
theorem tu_0 (t:TE) (a b c n:Int) (hf:CallC P G 12 [txt t] [] (.ret (bool false)) []) (h:True):CallC P G 7 [txt t,ida a b c,int n] [] (AOut.ret (Am.bool true)) []:=by
 have _:=h
 exact callC_of [kc [] (@Go.Tx.sane_w (trivial)),kf (Eq.refl false),kc [] (@hf ),kt (Eq.refl true)] (by kernel_rfl)
theorem tu_1 (t:TE) (a b c n e:Int) (he:e≠0) (hf:CallC P G 12 [txt t] [] (.ret (bool true)) []) (hT:CallC P G 31 [txt t,ida a b c,int n] [] (.ret (.tup [.agg [ces [],mks []],int e])) []) (h:True):CallC P G 7 [txt t,ida a b c,int n] [] (AOut.ret (Am.bool true)) []:=by
 have _:=h
 exact callC_of [kc [] (@Go.Tx.sane_w (trivial)),kf (Eq.refl false),kc [] (@hf ),kf (Eq.refl false),kc [] (@hT ),kt (show (e != 0)=true from (congrArg Bool.not (decide_eq_false (by omega))))] (by kernel_rfl)
theorem tu_2 (t x:TE) (a b c n:Int) (met:Nat) (hx:(x.cells.length:Int)=(t.cells.length:Int)) (hn:n=(met:Int)) (hf:CallC P G 12 [txt t] [] (.ret (bool true)) []) (hT:CallC P G 31 [txt t,ida a b c,int n] [] (.ret (.tup [txt x,int 0])) []) (hU:CallC P G 31 [txt x,ida a b c,int n] [] (.ret (.tup [txt x,int 0])) []) (hS:CallC P G 26 [txt x,txt x] [] (.ret (bool true)) []) (hL:RunL P G none 0 (loopAt P 7 0) (tuS t x a b c n 0 0) (.exit 0) (tuX t x a b c n met)) (o:Bool) (h:((↑met:Int) == n)=(o)):CallC P G 7 [txt t,ida a b c,int n] [] (AOut.ret (Am.bool o)) []:=by
 have e1:=h
 exact callC_out (Sub.bool_eq e1) [kc [] (@Go.Tx.sane_w (trivial)),kf (Eq.refl false),kc [] (@hf ),kf (Eq.refl false),kc [] (@hT ),kf (Eq.refl false),kc [] (@hU ),kf (Eq.refl false),kc [] (@hS ),kf (Eq.refl false),kv 60 (show Am.Sub (int (↑(List.length (Sq.encs (TE.cells x))):Int)) (int (↑(List.length (TE.cells x)):Int)) from (Sub.of_eq (by simp only [Go.Sq.encs_length]))),kv 63 (show Am.Sub (int (↑(List.length (Sq.encs (TE.cells t))):Int)) (int (↑(List.length (TE.cells t)):Int)) from (Sub.of_eq (by simp only [Go.Sq.encs_length]))),kf (show ((↑(List.length (TE.cells x)):Int) != (↑(List.length (TE.cells t)):Int))=false from (congrArg Bool.not (decide_eq_true (by omega)))),kl [0,1,5,6,8,9,10,13,14,15,16,17,18,19,20,21,22,23,24,25,26,27,28,29,30,31,32,33,34,35,36,37,38,39,40,41,42,43,44,45,46,47,48,49,50,51,52,53,54,55,56,57,58,59,60,61,62,63,64,65,66,67,68,69,70,71,72,73,74,75,76,77,78,79,80,81,82,83,84,85,86,87,88,89,90,91,92,93,94,95,96,97,98,99,100,101,102,103,104,105,106,107,108,109,110,111,112,113,114,115,116,117,118,119,120,121,122,123,124,125,126,127,128,129,130,131,132,133,134,135,136,137,138,139,140,141,142,143,144,145,146,147,148,149,150,151,152,153,154,155,156,157,158,159,160] 4 (@hL )] (by kernel_rfl)
theorem tu_e (t x:TE) (a b c n:Int) (met k:Nat) (hk:¬ (k:Int)<(t.cells.length:Int)) (h:True):RunL P G none 0 (loopAt P 7 0) (tuS t x a b c n met k) (AEx.exit 0) (tuX t x a b c n met):=by
 have _:=h
 exact loop_exit [kv 69 (show Am.Sub (int (↑(List.length (Sq.encs (TE.cells t))):Int)) (int (↑(List.length (TE.cells t)):Int)) from (Sub.of_eq (by simp only [Go.Sq.encs_length]))),kf (show decide ((↑k:Int)<(↑(List.length (TE.cells t)):Int))=false from (decide_eq_false (by omega)))] (others 161 [2,11]) 4 (by kernel_rfl)
end Go.Tx


namespace Go.Tx
open Go Go.Am Go.Proofs Go.Seat
open Go.Sq (CE cel ces ida idv opsOf depsOf ready_deps none_ready)
theorem e2_defs {V V':View} {l:List Deferred} (h:DefsRep V [] l):DefsRep V' [] l:=by
 cases l with
 | nil=>exact .nil
 | cons d l=>cases h
theorem ix_get {l:List CE} {k:Nat} {u:CE} (h:l[k]? = some u):(Sq.encs l)[Int.toNat ((k:Nat):Int)]? = some (Sq.enc u):=by
 rw [Int.toNat_natCast,Sq.encs_get?,h]; rfl
noncomputable def ops_tc:Array Oper:=opsOf (regAt P 7 0)
theorem reg_tc:(regAt P 7 0) = .region 15 ops_tc true:=by kernel_rfl
theorem deps_tc:depsOf ops_tc=[[],[0],[],[1,2],[3],[],[5],[],[6,7],[8],[],[],[10,4,0,1,2,3,11],[11,9,12,0,1,2,3,4,5,6,7,8,10]]:=by kernel_rfl
def ev_tc (t x:TE) (ia ib ic nn:Int) (met kk:Nat) (u v:CE) (a0 a1 e0 e1 e2 e3 e4 e5 e6 e7 e8 e9:AV):List AV:=slots 161 ([(2,int nn),(3,.ptr 0 0),(4,.ptr 1 0),(7,.ptr 2 0),(11,int met),(12,int kk)]++[(13,a0),(14,a1),(73,e0),(74,e1),(75,e2),(76,e3),(77,e4),(78,e5),(79,e6),(80,e7),(81,e8),(82,e9)])
noncomputable def op_tc (i:Nat):Oper:=ops_tc.toList.getD i default
def K_tc (t x:TE) (ia ib ic nn:Int) (met kk:Nat) (u v:CE):List AObj:=[sbT t,.box [int ia,int ib,int ic],sbT x,sbT x]
def b0_tc (t x:TE) (ia ib ic nn:Int) (met kk:Nat) (u v:CE) (l:Bool):AObj:=if l=true then .box (Sq.enc u) else (.box [int 0,int 0,int 0,int 0,int 0,int 0,int 0,str ByteArray.empty,bool false])
def b1_tc (t x:TE) (ia ib ic nn:Int) (met kk:Nat) (u v:CE) (l:Bool):AObj:=if l=true then .box (Sq.enc v) else (.box [int 0,int 0,int 0,int 0,int 0,int 0,int 0,str ByteArray.empty,bool false])
structure J_tc (t x:TE) (ia ib ic nn:Int) (met kk:Nat) (u v:CE) (listed:Array Bool) (env:List AV) (H:List AObj):Prop where
 ex:∃ l0 l1 l2 l3 l4 l5 l6 l7 l8 l9 l10 l11 l12 l13 a0 a1 e0 e1 e2 e3 e4 e5 e6 e7 e8 e9 T,listed=#[l0,l1,l2,l3,l4,l5,l6,l7,l8,l9,l10,l11,l12,l13]∧env=(ev_tc t x ia ib ic nn met kk u v a0 a1 e0 e1 e2 e3 e4 e5 e6 e7 e8 e9)∧H=(K_tc t x ia ib ic nn met kk u v)++T∧(l0=true→e0 = .ptr 0 0)∧(l1=true→e1=(ces t.cells))∧(l2=true→e2=int kk)∧(l3=true→e3=(.imm (Sq.enc u)))∧(l4=true→e4=(cel u))∧(l5=true→e5 = .ptr 2 0)∧(l6=true→e6=(ces x.cells))∧(l7=true→e7=int kk)∧(l8=true→e8=(.imm (Sq.enc v)))∧(l9=true→e9=(cel v))∧(l10=false∨l11=false→l12=false)∧(l12=false→l13=false) ∧
  ((l10=false∧l11=false∧T=[])∨(l10=true∧l11=false∧a0 = .ptr 4 0∧T=[(.box [int 0,int 0,int 0,int 0,int 0,int 0,int 0,str ByteArray.empty,bool false])])∨(l10=false∧l11=true∧a1 = .ptr 4 0∧T=[(.box [int 0,int 0,int 0,int 0,int 0,int 0,int 0,str ByteArray.empty,bool false])]) ∨
    (l10=true∧l11=true∧((a0 = .ptr 4 0∧a1 = .ptr 5 0∧T=[(b0_tc t x ia ib ic nn met kk u v l12),(b1_tc t x ia ib ic nn met kk u v l13)])∨(a0 = .ptr 5 0∧a1 = .ptr 4 0∧T=[(b1_tc t x ia ib ic nn met kk u v l13),(b0_tc t x ia ib ic nn met kk u v l12)]))))
theorem step_tc (t x:TE) (ia ib ic nn:Int) (met kk:Nat) (u v:CE) (hu:t.cells[kk]? = some u) (hv:x.cells[kk]? = some v):∀ listed env H,J_tc t x ia ib ic nn met kk u v listed env H→∀ i∈Region.ready .any ops_tc listed,∃ o orc k z H' orc' ps,ops_tc[i]? = some o∧stepA P G ops_tc (guards ops_tc i) env H o orc=some (k,.ret z,H',orc',ps)∧AllP ps∧J_tc t x ia ib ic nn met kk u v (listed.setIfInBounds i true) (putA env o.dst z) H':=by
 intro listed env H hJ i hi
 obtain ⟨h1,h2,h3⟩:=ready_deps hi
 rw [deps_tc] at h3
 obtain ⟨l0,l1,l2,l3,l4,l5,l6,l7,l8,l9,l10,l11,l12,l13,a0,a1,e0,e1,e2,e3,e4,e5,e6,e7,e8,e9,T,rfl,rfl,rfl,k0,k1,k2,k3,k4,k5,k6,k7,k8,k9,kb,kc,kT⟩:=hJ.ex
 have hsz:ops_tc.size=14:=by kernel_rfl
 have hiN:i<14:=by omega
 have b8:l10=false∨l11=false→l12=false:=kb
 have b9:l12=false→l13=false:=kc
 match i,hiN with
 | 0,_ =>
  exact ⟨op_tc 0,[],.free,.ptr 0 0,_,[],[],by kernel_rfl,(by kernel_rfl:stepA P G ops_tc (guards ops_tc 0) (ev_tc t x ia ib ic nn met kk u v a0 a1 e0 e1 e2 e3 e4 e5 e6 e7 e8 e9) ((K_tc t x ia ib ic nn met kk u v)++T) (op_tc 0) []=some (.free,.ret (.ptr 0 0),((K_tc t x ia ib ic nn met kk u v)++T),[],[])),trivial,⟨_,_,_,_,_,_,_,_,_,_,_,_,_,_,_,_,_,_,_,_,_,_,_,_,_,_,T,rfl,(by kernel_rfl:putA (ev_tc t x ia ib ic nn met kk u v a0 a1 e0 e1 e2 e3 e4 e5 e6 e7 e8 e9) (op_tc 0).dst (.ptr 0 0)=(ev_tc t x ia ib ic nn met kk u v a0 a1 (.ptr 0 0) e1 e2 e3 e4 e5 e6 e7 e8 e9)),rfl,fun _=>rfl,k1,k2,k3,k4,k5,k6,k7,k8,k9,kb,kc,kT⟩⟩
 | 1,_ =>
  obtain rfl:=k0 (h3 0 (by decide))
  exact ⟨op_tc 1,[],.read,(ces t.cells),_,[],[],by kernel_rfl,(by kernel_rfl:stepA P G ops_tc (guards ops_tc 1) (ev_tc t x ia ib ic nn met kk u v a0 a1 (.ptr 0 0) e1 e2 e3 e4 e5 e6 e7 e8 e9) ((K_tc t x ia ib ic nn met kk u v)++T) (op_tc 1) []=some (.read,.ret ((ces t.cells)),((K_tc t x ia ib ic nn met kk u v)++T),[],[])),trivial,⟨_,_,_,_,_,_,_,_,_,_,_,_,_,_,_,_,_,_,_,_,_,_,_,_,_,_,T,rfl,(by kernel_rfl:putA (ev_tc t x ia ib ic nn met kk u v a0 a1 (.ptr 0 0) e1 e2 e3 e4 e5 e6 e7 e8 e9) (op_tc 1).dst ((ces t.cells))=(ev_tc t x ia ib ic nn met kk u v a0 a1 (.ptr 0 0) ((ces t.cells)) e2 e3 e4 e5 e6 e7 e8 e9)),rfl,fun _=>rfl,fun _=>rfl,k2,k3,k4,k5,k6,k7,k8,k9,kb,kc,kT⟩⟩
 | 2,_ =>
  exact ⟨op_tc 2,[],.free,int kk,_,[],[],by kernel_rfl,(by kernel_rfl:stepA P G ops_tc (guards ops_tc 2) (ev_tc t x ia ib ic nn met kk u v a0 a1 e0 e1 e2 e3 e4 e5 e6 e7 e8 e9) ((K_tc t x ia ib ic nn met kk u v)++T) (op_tc 2) []=some (.free,.ret (int kk),((K_tc t x ia ib ic nn met kk u v)++T),[],[])),trivial,⟨_,_,_,_,_,_,_,_,_,_,_,_,_,_,_,_,_,_,_,_,_,_,_,_,_,_,T,rfl,(by kernel_rfl:putA (ev_tc t x ia ib ic nn met kk u v a0 a1 e0 e1 e2 e3 e4 e5 e6 e7 e8 e9) (op_tc 2).dst (int kk)=(ev_tc t x ia ib ic nn met kk u v a0 a1 e0 e1 (int kk) e3 e4 e5 e6 e7 e8 e9)),rfl,k0,k1,fun _=>rfl,k3,k4,k5,k6,k7,k8,k9,kb,kc,kT⟩⟩
 | 3,_ =>
  obtain rfl:=k1 (h3 1 (by decide))
  obtain rfl:=k2 (h3 2 (by decide))
  exact ⟨op_tc 3,[.elem (Sq.enc u)],.free,(.imm (Sq.enc u)),_,[],[0≤((kk:Nat):Int)∧(Sq.encs t.cells)[Int.toNat ((kk:Nat):Int)]? = some (Sq.enc u)],by kernel_rfl,(by kernel_rfl:stepA P G ops_tc (guards ops_tc 3) (ev_tc t x ia ib ic nn met kk u v a0 a1 e0 ((ces t.cells)) (int kk) e3 e4 e5 e6 e7 e8 e9) ((K_tc t x ia ib ic nn met kk u v)++T) (op_tc 3) [.elem (Sq.enc u)]=some (.free,.ret ((.imm (Sq.enc u))),((K_tc t x ia ib ic nn met kk u v)++T),[],[0≤((kk:Nat):Int)∧(Sq.encs t.cells)[Int.toNat ((kk:Nat):Int)]? = some (Sq.enc u)])),⟨⟨by omega,ix_get hu⟩,trivial⟩,⟨_,_,_,_,_,_,_,_,_,_,_,_,_,_,_,_,_,_,_,_,_,_,_,_,_,_,T,rfl,(by kernel_rfl:putA (ev_tc t x ia ib ic nn met kk u v a0 a1 e0 ((ces t.cells)) (int kk) e3 e4 e5 e6 e7 e8 e9) (op_tc 3).dst ((.imm (Sq.enc u)))=(ev_tc t x ia ib ic nn met kk u v a0 a1 e0 ((ces t.cells)) (int kk) ((.imm (Sq.enc u))) e4 e5 e6 e7 e8 e9)),rfl,k0,fun _=>rfl,fun _=>rfl,fun _=>rfl,k4,k5,k6,k7,k8,k9,kb,kc,kT⟩⟩
 | 4,_ =>
  obtain rfl:=k3 (h3 3 (by decide))
  exact ⟨op_tc 4,[],.free,(cel u),_,[],[],by kernel_rfl,(by kernel_rfl:stepA P G ops_tc (guards ops_tc 4) (ev_tc t x ia ib ic nn met kk u v a0 a1 e0 e1 e2 ((.imm (Sq.enc u))) e4 e5 e6 e7 e8 e9) ((K_tc t x ia ib ic nn met kk u v)++T) (op_tc 4) []=some (.free,.ret ((cel u)),((K_tc t x ia ib ic nn met kk u v)++T),[],[])),trivial,⟨_,_,_,_,_,_,_,_,_,_,_,_,_,_,_,_,_,_,_,_,_,_,_,_,_,_,T,rfl,(by kernel_rfl:putA (ev_tc t x ia ib ic nn met kk u v a0 a1 e0 e1 e2 ((.imm (Sq.enc u))) e4 e5 e6 e7 e8 e9) (op_tc 4).dst ((cel u))=(ev_tc t x ia ib ic nn met kk u v a0 a1 e0 e1 e2 ((.imm (Sq.enc u))) ((cel u)) e5 e6 e7 e8 e9)),rfl,k0,k1,k2,fun _=>rfl,fun _=>rfl,k5,k6,k7,k8,k9,kb,kc,kT⟩⟩
 | 5,_ =>
  exact ⟨op_tc 5,[],.free,.ptr 2 0,_,[],[],by kernel_rfl,(by kernel_rfl:stepA P G ops_tc (guards ops_tc 5) (ev_tc t x ia ib ic nn met kk u v a0 a1 e0 e1 e2 e3 e4 e5 e6 e7 e8 e9) ((K_tc t x ia ib ic nn met kk u v)++T) (op_tc 5) []=some (.free,.ret (.ptr 2 0),((K_tc t x ia ib ic nn met kk u v)++T),[],[])),trivial,⟨_,_,_,_,_,_,_,_,_,_,_,_,_,_,_,_,_,_,_,_,_,_,_,_,_,_,T,rfl,(by kernel_rfl:putA (ev_tc t x ia ib ic nn met kk u v a0 a1 e0 e1 e2 e3 e4 e5 e6 e7 e8 e9) (op_tc 5).dst (.ptr 2 0)=(ev_tc t x ia ib ic nn met kk u v a0 a1 e0 e1 e2 e3 e4 (.ptr 2 0) e6 e7 e8 e9)),rfl,k0,k1,k2,k3,k4,fun _=>rfl,k6,k7,k8,k9,kb,kc,kT⟩⟩
 | 6,_ =>
  obtain rfl:=k5 (h3 5 (by decide))
  exact ⟨op_tc 6,[],.read,(ces x.cells),_,[],[],by kernel_rfl,(by kernel_rfl:stepA P G ops_tc (guards ops_tc 6) (ev_tc t x ia ib ic nn met kk u v a0 a1 e0 e1 e2 e3 e4 (.ptr 2 0) e6 e7 e8 e9) ((K_tc t x ia ib ic nn met kk u v)++T) (op_tc 6) []=some (.read,.ret ((ces x.cells)),((K_tc t x ia ib ic nn met kk u v)++T),[],[])),trivial,⟨_,_,_,_,_,_,_,_,_,_,_,_,_,_,_,_,_,_,_,_,_,_,_,_,_,_,T,rfl,(by kernel_rfl:putA (ev_tc t x ia ib ic nn met kk u v a0 a1 e0 e1 e2 e3 e4 (.ptr 2 0) e6 e7 e8 e9) (op_tc 6).dst ((ces x.cells))=(ev_tc t x ia ib ic nn met kk u v a0 a1 e0 e1 e2 e3 e4 (.ptr 2 0) ((ces x.cells)) e7 e8 e9)),rfl,k0,k1,k2,k3,k4,fun _=>rfl,fun _=>rfl,k7,k8,k9,kb,kc,kT⟩⟩
 | 7,_ =>
  exact ⟨op_tc 7,[],.free,int kk,_,[],[],by kernel_rfl,(by kernel_rfl:stepA P G ops_tc (guards ops_tc 7) (ev_tc t x ia ib ic nn met kk u v a0 a1 e0 e1 e2 e3 e4 e5 e6 e7 e8 e9) ((K_tc t x ia ib ic nn met kk u v)++T) (op_tc 7) []=some (.free,.ret (int kk),((K_tc t x ia ib ic nn met kk u v)++T),[],[])),trivial,⟨_,_,_,_,_,_,_,_,_,_,_,_,_,_,_,_,_,_,_,_,_,_,_,_,_,_,T,rfl,(by kernel_rfl:putA (ev_tc t x ia ib ic nn met kk u v a0 a1 e0 e1 e2 e3 e4 e5 e6 e7 e8 e9) (op_tc 7).dst (int kk)=(ev_tc t x ia ib ic nn met kk u v a0 a1 e0 e1 e2 e3 e4 e5 e6 (int kk) e8 e9)),rfl,k0,k1,k2,k3,k4,k5,k6,fun _=>rfl,k8,k9,kb,kc,kT⟩⟩
 | 8,_ =>
  obtain rfl:=k6 (h3 6 (by decide))
  obtain rfl:=k7 (h3 7 (by decide))
  exact ⟨op_tc 8,[.elem (Sq.enc v)],.free,(.imm (Sq.enc v)),_,[],[0≤((kk:Nat):Int)∧(Sq.encs x.cells)[Int.toNat ((kk:Nat):Int)]? = some (Sq.enc v)],by kernel_rfl,(by kernel_rfl:stepA P G ops_tc (guards ops_tc 8) (ev_tc t x ia ib ic nn met kk u v a0 a1 e0 e1 e2 e3 e4 e5 ((ces x.cells)) (int kk) e8 e9) ((K_tc t x ia ib ic nn met kk u v)++T) (op_tc 8) [.elem (Sq.enc v)]=some (.free,.ret ((.imm (Sq.enc v))),((K_tc t x ia ib ic nn met kk u v)++T),[],[0≤((kk:Nat):Int)∧(Sq.encs x.cells)[Int.toNat ((kk:Nat):Int)]? = some (Sq.enc v)])),⟨⟨by omega,ix_get hv⟩,trivial⟩,⟨_,_,_,_,_,_,_,_,_,_,_,_,_,_,_,_,_,_,_,_,_,_,_,_,_,_,T,rfl,(by kernel_rfl:putA (ev_tc t x ia ib ic nn met kk u v a0 a1 e0 e1 e2 e3 e4 e5 ((ces x.cells)) (int kk) e8 e9) (op_tc 8).dst ((.imm (Sq.enc v)))=(ev_tc t x ia ib ic nn met kk u v a0 a1 e0 e1 e2 e3 e4 e5 ((ces x.cells)) (int kk) ((.imm (Sq.enc v))) e9)),rfl,k0,k1,k2,k3,k4,k5,fun _=>rfl,fun _=>rfl,fun _=>rfl,k9,kb,kc,kT⟩⟩
 | 9,_ =>
  obtain rfl:=k8 (h3 8 (by decide))
  exact ⟨op_tc 9,[],.free,(cel v),_,[],[],by kernel_rfl,(by kernel_rfl:stepA P G ops_tc (guards ops_tc 9) (ev_tc t x ia ib ic nn met kk u v a0 a1 e0 e1 e2 e3 e4 e5 e6 e7 ((.imm (Sq.enc v))) e9) ((K_tc t x ia ib ic nn met kk u v)++T) (op_tc 9) []=some (.free,.ret ((cel v)),((K_tc t x ia ib ic nn met kk u v)++T),[],[])),trivial,⟨_,_,_,_,_,_,_,_,_,_,_,_,_,_,_,_,_,_,_,_,_,_,_,_,_,_,T,rfl,(by kernel_rfl:putA (ev_tc t x ia ib ic nn met kk u v a0 a1 e0 e1 e2 e3 e4 e5 e6 e7 ((.imm (Sq.enc v))) e9) (op_tc 9).dst ((cel v))=(ev_tc t x ia ib ic nn met kk u v a0 a1 e0 e1 e2 e3 e4 e5 e6 e7 ((.imm (Sq.enc v))) ((cel v)))),rfl,k0,k1,k2,k3,k4,k5,k6,k7,fun _=>rfl,fun _=>rfl,kb,kc,kT⟩⟩
 | 10,_ =>
  have hf:l10=false:=h1
  subst hf
  rcases kT with ⟨p1,q,rfl⟩ | ⟨p1,q,r,rfl⟩ | ⟨p1,q,r,rfl⟩ | ⟨p1,q,_⟩
  · exact ⟨op_tc 10,[],.eff,.ptr 4 0,_,[],[],by kernel_rfl,(by kernel_rfl:stepA P G ops_tc (guards ops_tc 10) (ev_tc t x ia ib ic nn met kk u v a0 a1 e0 e1 e2 e3 e4 e5 e6 e7 e8 e9) ((K_tc t x ia ib ic nn met kk u v)++[]) (op_tc 10) []=some (.eff,.ret (.ptr 4 0),((K_tc t x ia ib ic nn met kk u v)++[(.box [int 0,int 0,int 0,int 0,int 0,int 0,int 0,str ByteArray.empty,bool false])]),[],[])),trivial,⟨_,_,_,_,_,_,_,_,_,_,_,_,_,_,_,_,_,_,_,_,_,_,_,_,_,_,_,rfl,(by kernel_rfl:putA (ev_tc t x ia ib ic nn met kk u v a0 a1 e0 e1 e2 e3 e4 e5 e6 e7 e8 e9) (op_tc 10).dst (.ptr 4 0)=(ev_tc t x ia ib ic nn met kk u v (.ptr 4 0) a1 e0 e1 e2 e3 e4 e5 e6 e7 e8 e9)),rfl,k0,k1,k2,k3,k4,k5,k6,k7,k8,k9,fun _=>b8 (.inl rfl),b9,.inr (.inl ⟨rfl,q,rfl,rfl⟩)⟩⟩
  · cases p1
  · subst r q
    have x8:l12=false:=b8 (.inl rfl)
    have x9:l13=false:=b9 x8
    subst x8 x9
    exact ⟨op_tc 10,[],.eff,.ptr 5 0,_,[],[],by kernel_rfl,(by kernel_rfl:stepA P G ops_tc (guards ops_tc 10) (ev_tc t x ia ib ic nn met kk u v a0 (.ptr 4 0) e0 e1 e2 e3 e4 e5 e6 e7 e8 e9) ((K_tc t x ia ib ic nn met kk u v)++[(.box [int 0,int 0,int 0,int 0,int 0,int 0,int 0,str ByteArray.empty,bool false])]) (op_tc 10) []=some (.eff,.ret (.ptr 5 0),((K_tc t x ia ib ic nn met kk u v)++[(.box [int 0,int 0,int 0,int 0,int 0,int 0,int 0,str ByteArray.empty,bool false]),(.box [int 0,int 0,int 0,int 0,int 0,int 0,int 0,str ByteArray.empty,bool false])]),[],[])),trivial,⟨_,_,_,_,_,_,_,_,_,_,_,_,_,_,_,_,_,_,_,_,_,_,_,_,_,_,_,rfl,(by kernel_rfl:putA (ev_tc t x ia ib ic nn met kk u v a0 (.ptr 4 0) e0 e1 e2 e3 e4 e5 e6 e7 e8 e9) (op_tc 10).dst (.ptr 5 0)=(ev_tc t x ia ib ic nn met kk u v (.ptr 5 0) (.ptr 4 0) e0 e1 e2 e3 e4 e5 e6 e7 e8 e9)),rfl,k0,k1,k2,k3,k4,k5,k6,k7,k8,k9,fun _=>rfl,fun _=>rfl,.inr (.inr (.inr ⟨rfl,rfl,.inr ⟨rfl,rfl,rfl⟩⟩))⟩⟩
  · cases p1
 | 11,_ =>
  have hf:l11=false:=h1
  subst hf
  rcases kT with ⟨p1,q,rfl⟩ | ⟨p1,q,r,rfl⟩ | ⟨p1,q,r,rfl⟩ | ⟨p1,q,_⟩
  · exact ⟨op_tc 11,[],.eff,.ptr 4 0,_,[],[],by kernel_rfl,(by kernel_rfl:stepA P G ops_tc (guards ops_tc 11) (ev_tc t x ia ib ic nn met kk u v a0 a1 e0 e1 e2 e3 e4 e5 e6 e7 e8 e9) ((K_tc t x ia ib ic nn met kk u v)++[]) (op_tc 11) []=some (.eff,.ret (.ptr 4 0),((K_tc t x ia ib ic nn met kk u v)++[(.box [int 0,int 0,int 0,int 0,int 0,int 0,int 0,str ByteArray.empty,bool false])]),[],[])),trivial,⟨_,_,_,_,_,_,_,_,_,_,_,_,_,_,_,_,_,_,_,_,_,_,_,_,_,_,_,rfl,(by kernel_rfl:putA (ev_tc t x ia ib ic nn met kk u v a0 a1 e0 e1 e2 e3 e4 e5 e6 e7 e8 e9) (op_tc 11).dst (.ptr 4 0)=(ev_tc t x ia ib ic nn met kk u v a0 (.ptr 4 0) e0 e1 e2 e3 e4 e5 e6 e7 e8 e9)),rfl,k0,k1,k2,k3,k4,k5,k6,k7,k8,k9,fun _=>b8 (.inr rfl),b9,.inr (.inr (.inl ⟨p1,rfl,rfl,rfl⟩))⟩⟩
  · subst r p1
    have x8:l12=false:=b8 (.inr rfl)
    have x9:l13=false:=b9 x8
    subst x8 x9
    exact ⟨op_tc 11,[],.eff,.ptr 5 0,_,[],[],by kernel_rfl,(by kernel_rfl:stepA P G ops_tc (guards ops_tc 11) (ev_tc t x ia ib ic nn met kk u v (.ptr 4 0) a1 e0 e1 e2 e3 e4 e5 e6 e7 e8 e9) ((K_tc t x ia ib ic nn met kk u v)++[(.box [int 0,int 0,int 0,int 0,int 0,int 0,int 0,str ByteArray.empty,bool false])]) (op_tc 11) []=some (.eff,.ret (.ptr 5 0),((K_tc t x ia ib ic nn met kk u v)++[(.box [int 0,int 0,int 0,int 0,int 0,int 0,int 0,str ByteArray.empty,bool false]),(.box [int 0,int 0,int 0,int 0,int 0,int 0,int 0,str ByteArray.empty,bool false])]),[],[])),trivial,⟨_,_,_,_,_,_,_,_,_,_,_,_,_,_,_,_,_,_,_,_,_,_,_,_,_,_,_,rfl,(by kernel_rfl:putA (ev_tc t x ia ib ic nn met kk u v (.ptr 4 0) a1 e0 e1 e2 e3 e4 e5 e6 e7 e8 e9) (op_tc 11).dst (.ptr 5 0)=(ev_tc t x ia ib ic nn met kk u v (.ptr 4 0) (.ptr 5 0) e0 e1 e2 e3 e4 e5 e6 e7 e8 e9)),rfl,k0,k1,k2,k3,k4,k5,k6,k7,k8,k9,fun _=>rfl,fun _=>rfl,.inr (.inr (.inr ⟨rfl,rfl,.inl ⟨rfl,rfl,rfl⟩⟩))⟩⟩
  · cases q
  · cases q
 | 12,_ =>
  have hf:l12=false:=h1
  subst hf
  have t6:l10=true:=h3 10 (by decide)
  have t7:l11=true:=h3 11 (by decide)
  obtain rfl:=k4 (h3 4 (by decide))
  subst t6 t7
  rcases kT with ⟨p1,_⟩ | ⟨_,q,_⟩ | ⟨p1,_⟩ | ⟨_,_,⟨rfl,rfl,rfl⟩ | ⟨rfl,rfl,rfl⟩⟩
  · cases p1
  · cases q
  · cases p1
  · exact ⟨op_tc 12,[],.eff,(.lit undef),_,[],[],by kernel_rfl,(by kernel_rfl:stepA P G ops_tc (guards ops_tc 12) (ev_tc t x ia ib ic nn met kk u v (.ptr 4 0) (.ptr 5 0) e0 e1 e2 e3 ((cel u)) e5 e6 e7 e8 e9) ((K_tc t x ia ib ic nn met kk u v)++[(b0_tc t x ia ib ic nn met kk u v false),(b1_tc t x ia ib ic nn met kk u v l13)]) (op_tc 12) []=some (.eff,.ret ((.lit undef)),((K_tc t x ia ib ic nn met kk u v)++[(b0_tc t x ia ib ic nn met kk u v true),(b1_tc t x ia ib ic nn met kk u v l13)]),[],[])),trivial,⟨_,_,_,_,_,_,_,_,_,_,_,_,_,_,_,_,_,_,_,_,_,_,_,_,_,_,_,rfl,(by kernel_rfl:putA (ev_tc t x ia ib ic nn met kk u v (.ptr 4 0) (.ptr 5 0) e0 e1 e2 e3 ((cel u)) e5 e6 e7 e8 e9) (op_tc 12).dst ((.lit undef))=(ev_tc t x ia ib ic nn met kk u v (.ptr 4 0) (.ptr 5 0) e0 e1 e2 e3 ((cel u)) e5 e6 e7 e8 e9)),rfl,k0,k1,k2,k3,fun _=>rfl,k5,k6,k7,k8,k9,fun h=>(by rcases h with h | h<;>cases h),fun h=>(by cases h),.inr (.inr (.inr ⟨rfl,rfl,.inl ⟨rfl,rfl,rfl⟩⟩))⟩⟩
  · exact ⟨op_tc 12,[],.eff,(.lit undef),_,[],[],by kernel_rfl,(by kernel_rfl:stepA P G ops_tc (guards ops_tc 12) (ev_tc t x ia ib ic nn met kk u v (.ptr 5 0) (.ptr 4 0) e0 e1 e2 e3 ((cel u)) e5 e6 e7 e8 e9) ((K_tc t x ia ib ic nn met kk u v)++[(b1_tc t x ia ib ic nn met kk u v l13),(b0_tc t x ia ib ic nn met kk u v false)]) (op_tc 12) []=some (.eff,.ret ((.lit undef)),((K_tc t x ia ib ic nn met kk u v)++[(b1_tc t x ia ib ic nn met kk u v l13),(b0_tc t x ia ib ic nn met kk u v true)]),[],[])),trivial,⟨_,_,_,_,_,_,_,_,_,_,_,_,_,_,_,_,_,_,_,_,_,_,_,_,_,_,_,rfl,(by kernel_rfl:putA (ev_tc t x ia ib ic nn met kk u v (.ptr 5 0) (.ptr 4 0) e0 e1 e2 e3 ((cel u)) e5 e6 e7 e8 e9) (op_tc 12).dst ((.lit undef))=(ev_tc t x ia ib ic nn met kk u v (.ptr 5 0) (.ptr 4 0) e0 e1 e2 e3 ((cel u)) e5 e6 e7 e8 e9)),rfl,k0,k1,k2,k3,fun _=>rfl,k5,k6,k7,k8,k9,fun h=>(by rcases h with h | h<;>cases h),fun h=>(by cases h),.inr (.inr (.inr ⟨rfl,rfl,.inr ⟨rfl,rfl,rfl⟩⟩))⟩⟩
 | 13,_ =>
  have hf:l13=false:=h1
  subst hf
  have t6:l10=true:=h3 10 (by decide)
  have t7:l11=true:=h3 11 (by decide)
  obtain rfl:=k9 (h3 9 (by decide))
  subst t6 t7
  have t8:l12=true:=h3 12 (by decide)
  subst t8
  rcases kT with ⟨p1,_⟩ | ⟨_,q,_⟩ | ⟨p1,_⟩ | ⟨_,_,⟨rfl,rfl,rfl⟩ | ⟨rfl,rfl,rfl⟩⟩
  · cases p1
  · cases q
  · cases p1
  · exact ⟨op_tc 13,[],.eff,(.lit undef),_,[],[],by kernel_rfl,(by kernel_rfl:stepA P G ops_tc (guards ops_tc 13) (ev_tc t x ia ib ic nn met kk u v (.ptr 4 0) (.ptr 5 0) e0 e1 e2 e3 e4 e5 e6 e7 e8 ((cel v))) ((K_tc t x ia ib ic nn met kk u v)++[(b0_tc t x ia ib ic nn met kk u v true),(b1_tc t x ia ib ic nn met kk u v false)]) (op_tc 13) []=some (.eff,.ret ((.lit undef)),((K_tc t x ia ib ic nn met kk u v)++[(b0_tc t x ia ib ic nn met kk u v true),(b1_tc t x ia ib ic nn met kk u v true)]),[],[])),trivial,⟨_,_,_,_,_,_,_,_,_,_,_,_,_,_,_,_,_,_,_,_,_,_,_,_,_,_,_,rfl,(by kernel_rfl:putA (ev_tc t x ia ib ic nn met kk u v (.ptr 4 0) (.ptr 5 0) e0 e1 e2 e3 e4 e5 e6 e7 e8 ((cel v))) (op_tc 13).dst ((.lit undef))=(ev_tc t x ia ib ic nn met kk u v (.ptr 4 0) (.ptr 5 0) e0 e1 e2 e3 e4 e5 e6 e7 e8 ((cel v)))),rfl,k0,k1,k2,k3,k4,k5,k6,k7,k8,fun _=>rfl,kb,fun h=>(by cases h),.inr (.inr (.inr ⟨rfl,rfl,.inl ⟨rfl,rfl,rfl⟩⟩))⟩⟩
  · exact ⟨op_tc 13,[],.eff,(.lit undef),_,[],[],by kernel_rfl,(by kernel_rfl:stepA P G ops_tc (guards ops_tc 13) (ev_tc t x ia ib ic nn met kk u v (.ptr 5 0) (.ptr 4 0) e0 e1 e2 e3 e4 e5 e6 e7 e8 ((cel v))) ((K_tc t x ia ib ic nn met kk u v)++[(b1_tc t x ia ib ic nn met kk u v false),(b0_tc t x ia ib ic nn met kk u v true)]) (op_tc 13) []=some (.eff,.ret ((.lit undef)),((K_tc t x ia ib ic nn met kk u v)++[(b1_tc t x ia ib ic nn met kk u v true),(b0_tc t x ia ib ic nn met kk u v true)]),[],[])),trivial,⟨_,_,_,_,_,_,_,_,_,_,_,_,_,_,_,_,_,_,_,_,_,_,_,_,_,_,_,rfl,(by kernel_rfl:putA (ev_tc t x ia ib ic nn met kk u v (.ptr 5 0) (.ptr 4 0) e0 e1 e2 e3 e4 e5 e6 e7 e8 ((cel v))) (op_tc 13).dst ((.lit undef))=(ev_tc t x ia ib ic nn met kk u v (.ptr 5 0) (.ptr 4 0) e0 e1 e2 e3 e4 e5 e6 e7 e8 ((cel v)))),rfl,k0,k1,k2,k3,k4,k5,k6,k7,k8,fun _=>rfl,kb,fun h=>(by cases h),.inr (.inr (.inr ⟨rfl,rfl,.inr ⟨rfl,rfl,rfl⟩⟩))⟩⟩
 | n+14,h=>exact absurd h (by omega)
def Fin_tc (t x:TE) (ia ib ic nn:Int) (met kk:Nat) (u v:CE) (env:List AV) (H:List AObj):Prop:=(env=(ev_tc t x ia ib ic nn met kk u v (.ptr 4 0) (.ptr 5 0) (.ptr 0 0) ((ces t.cells)) (int kk) ((.imm (Sq.enc u))) ((cel u)) (.ptr 2 0) ((ces x.cells)) (int kk) ((.imm (Sq.enc v))) ((cel v)))∧H=(K_tc t x ia ib ic nn met kk u v)++[.box (Sq.enc u),.box (Sq.enc v)])∨(env=(ev_tc t x ia ib ic nn met kk u v (.ptr 5 0) (.ptr 4 0) (.ptr 0 0) ((ces t.cells)) (int kk) ((.imm (Sq.enc u))) ((cel u)) (.ptr 2 0) ((ces x.cells)) (int kk) ((.imm (Sq.enc v))) ((cel v)))∧H=(K_tc t x ia ib ic nn met kk u v)++[.box (Sq.enc v),.box (Sq.enc u)])
theorem end_tc (t x:TE) (ia ib ic nn:Int) (met kk:Nat) (u v:CE):∀ listed env H,J_tc t x ia ib ic nn met kk u v listed env H→Region.ready .any ops_tc listed=[]→Fin_tc t x ia ib ic nn met kk u v env H:=by
 intro listed env H hJ hr
 obtain ⟨l0,l1,l2,l3,l4,l5,l6,l7,l8,l9,l10,l11,l12,l13,a0,a1,e0,e1,e2,e3,e4,e5,e6,e7,e8,e9,T,rfl,rfl,rfl,k0,k1,k2,k3,k4,k5,k6,k7,k8,k9,kb,kc,kT⟩:=hJ.ex
 have hsz:ops_tc.size=14:=by kernel_rfl
 have key:=fun (i:Nat) (hi:i<14)=>none_ready (i:=i) hr (by rw [hsz]; rfl) (by rw [hsz]; exact hi)
 rw [deps_tc] at key
 obtain rfl:l0=true:=key 0 (by decide) (fun j hj=>by cases hj)
 obtain rfl:l1=true:=key 1 (by decide) (fun j hj=>by
  have:j=0:=by simpa using hj
  subst this; rfl)
 obtain rfl:l2=true:=key 2 (by decide) (fun j hj=>by cases hj)
 obtain rfl:l3=true:=key 3 (by decide) (fun j hj=>by
  have:j=1∨j=2:=by simpa using hj
  rcases this with rfl | rfl<;>rfl)
 obtain rfl:l4=true:=key 4 (by decide) (fun j hj=>by
  have:j=3:=by simpa using hj
  subst this; rfl)
 obtain rfl:l5=true:=key 5 (by decide) (fun j hj=>by cases hj)
 obtain rfl:l6=true:=key 6 (by decide) (fun j hj=>by
  have:j=5:=by simpa using hj
  subst this; rfl)
 obtain rfl:l7=true:=key 7 (by decide) (fun j hj=>by cases hj)
 obtain rfl:l8=true:=key 8 (by decide) (fun j hj=>by
  have:j=6∨j=7:=by simpa using hj
  rcases this with rfl | rfl<;>rfl)
 obtain rfl:l9=true:=key 9 (by decide) (fun j hj=>by
  have:j=8:=by simpa using hj
  subst this; rfl)
 obtain rfl:l10=true:=key 10 (by decide) (fun j hj=>by cases hj)
 obtain rfl:l11=true:=key 11 (by decide) (fun j hj=>by cases hj)
 obtain rfl:l12=true:=key 12 (by decide) (fun j hj=>by
  have:j=10∨j=4∨j=0∨j=1∨j=2∨j=3∨j=11:=by simpa using hj
  rcases this with rfl | rfl | rfl | rfl | rfl | rfl | rfl<;>rfl)
 obtain rfl:l13=true:=key 13 (by decide) (fun j hj=>by
  have:j=11∨j=9∨j=12∨j=0∨j=1∨j=2∨j=3∨j=4∨j=5∨j=6∨j=7∨j=8∨j=10:=by simpa using hj
  rcases this with rfl | rfl | rfl | rfl | rfl | rfl | rfl | rfl | rfl | rfl | rfl | rfl | rfl<;>rfl)
 obtain rfl:=k0 rfl
 obtain rfl:=k1 rfl
 obtain rfl:=k2 rfl
 obtain rfl:=k3 rfl
 obtain rfl:=k4 rfl
 obtain rfl:=k5 rfl
 obtain rfl:=k6 rfl
 obtain rfl:=k7 rfl
 obtain rfl:=k8 rfl
 obtain rfl:=k9 rfl
 rcases kT with ⟨p1,_⟩ | ⟨_,q,_⟩ | ⟨p1,_⟩ | ⟨_,_,⟨rfl,rfl,rfl⟩ | ⟨rfl,rfl,rfl⟩⟩
 · cases p1
 · cases q
 · cases p1
 · exact .inl ⟨rfl,rfl⟩
 · exact .inr ⟨rfl,rfl⟩
theorem reg2_tc (t x:TE) (ia ib ic nn:Int) (met kk:Nat) (u v:CE) (hu:t.cells[kk]? = some u) (hv:x.cells[kk]? = some v):RunC P G none 0 (regAt P 7 0) ⟨slots 161 [(2,int nn),(3,.ptr 0 0),(4,.ptr 1 0),(7,.ptr 2 0),(11,int met),(12,int kk)],(K_tc t x ia ib ic nn met kk u v),[]⟩ .normal ⟨slots 161 [(2,int nn),(3,.ptr 0 0),(4,.ptr 1 0),(7,.ptr 2 0),(11,int met),(12,int kk),(13,.ptr 4 0),(14,.ptr 5 0)],(K_tc t x ia ib ic nn met kk u v)++[.box (Sq.enc u),.box (Sq.enc v)],[]⟩:=by
 intro V0 V a h0 hs hG hok
 rw [reg_tc]
 refine region_family (J_tc t x ia ib ic nn met kk u v) (Fin_tc t x ia ib ic nn met kk u v) (step_tc t x ia ib ic nn met kk u v hu hv) (end_tc t x ia ib ic nn met kk u v) (s:=⟨slots 161 [(2,int nn),(3,.ptr 0 0),(4,.ptr 1 0),(7,.ptr 2 0),(11,int met),(12,int kk)],(K_tc t x ia ib ic nn met kk u v),[]⟩) ?_ (by kernel_rfl) hG hok fun V2 a2 env2 H2 s2 g2 k2 f2=>?_
 · exact ⟨_,_,_,_,_,_,_,_,_,_,_,_,_,_,_,_,_,_,_,_,_,_,_,_,_,_,[],(by kernel_rfl:Array.replicate ops_tc.size false=#[false,false,false,false,false,false,false,false,false,false,false,false,false,false]),(by kernel_rfl:slots 161 [(2,int nn),(3,.ptr 0 0),(4,.ptr 1 0),(7,.ptr 2 0),(11,int met),(12,int kk)]=(ev_tc t x ia ib ic nn met kk u v (.dead) (.dead) (.dead) (.dead) (.dead) (.dead) (.dead) (.dead) (.dead) (.dead) (.dead) (.dead))),rfl,fun h=>(by cases h),fun h=>(by cases h),fun h=>(by cases h),fun h=>(by cases h),fun h=>(by cases h),fun h=>(by cases h),fun h=>(by cases h),fun h=>(by cases h),fun h=>(by cases h),fun h=>(by cases h),fun _=>rfl,fun _=>rfl,.inl ⟨rfl,rfl,rfl⟩⟩
 · have hdull:∀ {V:View} {a:Act},EnvOk V (ev_tc t x ia ib ic nn met kk u v (.ptr 4 0) (.ptr 5 0) (.ptr 0 0) ((ces t.cells)) (int kk) ((.imm (Sq.enc u))) ((cel u)) (.ptr 2 0) ((ces x.cells)) (int kk) ((.imm (Sq.enc v))) ((cel v))) a→EnvOk V (slots 161 [(2,int nn),(3,.ptr 0 0),(4,.ptr 1 0),(7,.ptr 2 0),(11,int met),(12,int kk),(13,.ptr 4 0),(14,.ptr 5 0)]) a:=fun {V a} h=>by
    have:=deaden_ok (ts:=[73,74,75,76,77,78,79,80,81,82]) h
    exact this
   rcases f2 with ⟨rfl,rfl⟩ | ⟨rfl,rfl⟩
   · exact ⟨V2,rfl,hs.trans s2,g2,⟨hdull k2.env,k2.H,k2.defs⟩,trivial⟩
   · have hn:V0.H.length≤((K_tc t x ia ib ic nn met kk u v)).length:=by rw [h0]; show 0≤4; decide
     obtain ⟨V3,e1,e2,e3,e4,e5⟩:=two_swap (oA:=.box (Sq.enc u)) (oB:=.box (Sq.enc v)) (hs.trans s2) hn g2 k2.H (fun o ho=>by
      have:o∈[sbT t,.box [int ia,int ib,int ic],sbT x,sbT x]:=ho
      simp only [List.mem_cons,List.not_mem_nil,or_false] at this
      rcases this with rfl | rfl | rfl | rfl<;>rfl) (by show AV.idsLtL _ _=true; kernel_rfl) (by show AV.idsLtL _ _=true; kernel_rfl) (envA:=(ev_tc t x ia ib ic nn met kk u v (.ptr 4 0) (.ptr 5 0) (.ptr 0 0) ((ces t.cells)) (int kk) ((.imm (Sq.enc u))) ((cel u)) (.ptr 2 0) ((ces x.cells)) (int kk) ((.imm (Sq.enc v))) ((cel v)))) k2.env (by kernel_rfl) (by kernel_rfl)
     rw [← e1]
     exact ⟨V3,rfl,e2,e3,⟨hdull e5,e4,e2_defs k2.defs⟩,trivial⟩
end Go.Tx


namespace Go.Tx
open Go Go.Am Go.Proofs Go.Seat
open Go.Sq (CE cel ces ida idv pid fX fiO OkRs OkR chkE)
def tcC (t:TE) (k:Nat):CE:=t.cells.getD k ⟨0,0,0,0,0,0,0,.empty,false⟩
theorem tcC_get {t:TE} {k:Nat} (h:k<t.cells.length):t.cells[k]? = some (tcC t k):=by
 unfold tcC
 rw [List.getD_eq_getElem?_getD,List.getElem?_eq_getElem h]; rfl
theorem reg3_tc (t x:TE) (a b c n:Int) (met k:Nat) (h:k<t.cells.length) (h':k<x.cells.length):RunC P G none 0 (regAt P 7 0) (tuS t x a b c n met k) .normal (tuR t x a b c n met k (tcC t k) (tcC x k)):=reg2_tc t x a b c n met k (tcC t k) (tcC x k) (tcC_get h) (tcC_get h')
end Go.Tx


namespace Go.Tx
open Go Go.Am Go.Proofs Go.Seat
open Go.Sq (CE cel ces ida idv pid fX fiO OkRs OkR chkE)
theorem tu_c (t x:TE) (a b c n:Int) (met k:Nat) (ls:List Int) (hl:t.cells.length≤40) (hm:met≤40) (hk:(k:Int)<(t.cells.length:Int)) (hk1:k<t.cells.length) (hk2:k<x.cells.length) (r1:0≤(tcC t k).at') (r2:(tcC t k).at'≤63) (r3:0≤c) (r4:c≤63) (e1:(tcC t k).dv=(tcC x k).dv) (e2:(tcC t k).sq=(tcC x k).sq) (e3:(tcC t k).at'=(tcC x k).at') (e4:(tcC t k).ad=(tcC x k).ad) (e5:(tcC t k).as'=(tcC x k).as') (e6:(tcC t k).aa=(tcC x k).aa) (e7:(tcC t k).tm=(tcC x k).tm) (e8:(ByteArray.toList (tcC t k).vl == ByteArray.toList (tcC x k).vl)=true) (hg:(tcC x k).gn=true) (h1:(tcC t k).dv=a) (h2:(tcC t k).sq=b) (h3:(tcC t k).at'≥c) (h4:(tcC t k).at' - c<n) (hS:CallC P G 13 [txt t,int k] [] (.ret (.tup [ils ls,int 0])) []) (hT:CallC P G 13 [txt x,int k] [] (.ret (.tup [ils ls,int 0])) []) (hE:CallC P G 21 [ils ls,ils ls] [] (.ret (bool true)) []) (ex:AEx) (s':St) (h:((((CE.gn (tcC t k))=true)→((((CE.gn (tcC x k) == true)=true)→((((CE.dv (tcC t k) == CE.dv (tcC x k) && (CE.sq (tcC t k) == CE.sq (tcC x k) && (CE.at' (tcC t k) == CE.at' (tcC x k) && (CE.ad (tcC t k) == CE.ad (tcC x k) && (CE.as' (tcC t k) == CE.as' (tcC x k) && (CE.aa (tcC t k) == CE.aa (tcC x k) && (CE.tm (tcC t k) == CE.tm (tcC x k) && (CE.vl (tcC t k) == CE.vl (tcC x k) && CE.gn (tcC t k) == CE.gn (tcC t k)))))))))=true)→RunL P G none 0 (loopAt P 7 0) (St.mk (slots 161 [(2,int n),(3,AV.ptr 0 0),(4,AV.ptr 1 0),(7,AV.ptr 2 0),(11,int (↑(met+1):Int)),(12,int (↑(k+1):Int))]) [AObj.box [AV.sl 9 false (Sq.encs (TE.cells t)),AV.sl 11 false (encs (TE.marks t))],AObj.box [int a,int b,int c],AObj.box [AV.sl 9 false (Sq.encs (TE.cells x)),AV.sl 11 false (encs (TE.marks x))],AObj.box [AV.sl 9 false (Sq.encs (TE.cells x)),AV.sl 11 false (encs (TE.marks x))]] []) ex s')∧(((CE.dv (tcC t k) == CE.dv (tcC x k) && (CE.sq (tcC t k) == CE.sq (tcC x k) && (CE.at' (tcC t k) == CE.at' (tcC x k) && (CE.ad (tcC t k) == CE.ad (tcC x k) && (CE.as' (tcC t k) == CE.as' (tcC x k) && (CE.aa (tcC t k) == CE.aa (tcC x k) && (CE.tm (tcC t k) == CE.tm (tcC x k) && (CE.vl (tcC t k) == CE.vl (tcC x k) && CE.gn (tcC t k) == CE.gn (tcC t k)))))))))=false)→(AEx.ret=ex)∧(St.mk (slots 161 []) [AObj.box [AV.sl 9 false (Sq.encs (TE.cells t)),AV.sl 11 false (encs (TE.marks t))],AObj.box [int a,int b,int c],AObj.box [AV.sl 9 false (Sq.encs (TE.cells x)),AV.sl 11 false (encs (TE.marks x))],AObj.box [AV.sl 9 false (Sq.encs (TE.cells x)),AV.sl 11 false (encs (TE.marks x))]] []=s'))))∧(((CE.gn (tcC x k) == true)=false)→(AEx.ret=ex)∧(St.mk (slots 161 []) [AObj.box [AV.sl 9 false (Sq.encs (TE.cells t)),AV.sl 11 false (encs (TE.marks t))],AObj.box [int a,int b,int c],AObj.box [AV.sl 9 false (Sq.encs (TE.cells x)),AV.sl 11 false (encs (TE.marks x))],AObj.box [AV.sl 9 false (Sq.encs (TE.cells x)),AV.sl 11 false (encs (TE.marks x))]] []=s'))))∧(((CE.gn (tcC t k))=false)→((((CE.gn (tcC x k) == decide (CE.at' (tcC t k) - c<n))=true)→((((CE.dv (tcC t k) == CE.dv (tcC x k) && (CE.sq (tcC t k) == CE.sq (tcC x k) && (CE.at' (tcC t k) == CE.at' (tcC x k) && (CE.ad (tcC t k) == CE.ad (tcC x k) && (CE.as' (tcC t k) == CE.as' (tcC x k) && (CE.aa (tcC t k) == CE.aa (tcC x k) && (CE.tm (tcC t k) == CE.tm (tcC x k) && (CE.vl (tcC t k) == CE.vl (tcC x k) && CE.gn (tcC t k) == CE.gn (tcC t k)))))))))=true)→RunL P G none 0 (loopAt P 7 0) (St.mk (slots 161 [(2,int n),(3,AV.ptr 0 0),(4,AV.ptr 1 0),(7,AV.ptr 2 0),(11,int (↑(met+1):Int)),(12,int (↑(k+1):Int))]) [AObj.box [AV.sl 9 false (Sq.encs (TE.cells t)),AV.sl 11 false (encs (TE.marks t))],AObj.box [int a,int b,int c],AObj.box [AV.sl 9 false (Sq.encs (TE.cells x)),AV.sl 11 false (encs (TE.marks x))],AObj.box [AV.sl 9 false (Sq.encs (TE.cells x)),AV.sl 11 false (encs (TE.marks x))]] []) ex s')∧(((CE.dv (tcC t k) == CE.dv (tcC x k) && (CE.sq (tcC t k) == CE.sq (tcC x k) && (CE.at' (tcC t k) == CE.at' (tcC x k) && (CE.ad (tcC t k) == CE.ad (tcC x k) && (CE.as' (tcC t k) == CE.as' (tcC x k) && (CE.aa (tcC t k) == CE.aa (tcC x k) && (CE.tm (tcC t k) == CE.tm (tcC x k) && (CE.vl (tcC t k) == CE.vl (tcC x k) && CE.gn (tcC t k) == CE.gn (tcC t k)))))))))=false)→(AEx.ret=ex)∧(St.mk (slots 161 []) [AObj.box [AV.sl 9 false (Sq.encs (TE.cells t)),AV.sl 11 false (encs (TE.marks t))],AObj.box [int a,int b,int c],AObj.box [AV.sl 9 false (Sq.encs (TE.cells x)),AV.sl 11 false (encs (TE.marks x))],AObj.box [AV.sl 9 false (Sq.encs (TE.cells x)),AV.sl 11 false (encs (TE.marks x))]] []=s'))))∧(((CE.gn (tcC x k) == decide (CE.at' (tcC t k) - c<n))=false)→(AEx.ret=ex)∧(St.mk (slots 161 []) [AObj.box [AV.sl 9 false (Sq.encs (TE.cells t)),AV.sl 11 false (encs (TE.marks t))],AObj.box [int a,int b,int c],AObj.box [AV.sl 9 false (Sq.encs (TE.cells x)),AV.sl 11 false (encs (TE.marks x))],AObj.box [AV.sl 9 false (Sq.encs (TE.cells x)),AV.sl 11 false (encs (TE.marks x))]] []=s')))))):RunL P G none 0 (loopAt P 7 0) (tuS t x a b c n met k) ex s':=by
 have hz0:Am.Sub (int (↑(List.length (Sq.encs (TE.cells t))):Int)) (int (↑(List.length (TE.cells t)):Int)):=(Sub.of_eq (by simp only [Go.Sq.encs_length]))
 have hz1:decide ((↑k:Int)<(↑(List.length (TE.cells t)):Int))=true:=(decide_eq_true (by omega))
 have hz2:=(@Go.Tx.reg3_tc (t) (x) (a) (b) (c) (n) (met) (k) (by omega) (by omega))
 have hz3:(CE.dv (tcC t k) == a)=true:=(decide_eq_true (by omega))
 have hz4:(CE.sq (tcC t k) == b)=true:=(decide_eq_true (by omega))
 have hz5:decide (CE.at' (tcC t k)≥c)=true:=(decide_eq_true (by omega))
 have hz6:Am.Sub (int (IntKind.wrap IntKind.i64 (CE.at' (tcC t k) - c))) (int (CE.at' (tcC t k) - c)):=(Sub.of_wrap (by omega) (by omega) rfl)
 have hz7:decide (CE.at' (tcC t k) - c<n)=true:=(decide_eq_true (by omega))
 have hz8:Am.Sub (int (IntKind.wrap IntKind.i64 ((↑met:Int)+1))) (int (↑(met+1):Int)):=(Sub.of_wrap (by omega) (by omega) (by omega))
 have hz10:=(@hS )
 have hz11:=(@hT )
 have hz13:=(@hE )
 rcases Bool.eq_false_or_eq_true ((CE.gn (tcC t k))) with c6 | c6
 · have h:=h.1 c6
   rcases Bool.eq_false_or_eq_true ((CE.gn (tcC x k) == true)) with c7 | c7
   · have h:=h.1 c7
     have hz9:(!CE.gn (tcC x k) == true)=false:=(congrArg Bool.not (c7))
     rcases Bool.eq_false_or_eq_true ((CE.dv (tcC t k) == CE.dv (tcC x k) && (CE.sq (tcC t k) == CE.sq (tcC x k) && (CE.at' (tcC t k) == CE.at' (tcC x k) && (CE.ad (tcC t k) == CE.ad (tcC x k) && (CE.as' (tcC t k) == CE.as' (tcC x k) && (CE.aa (tcC t k) == CE.aa (tcC x k) && (CE.tm (tcC t k) == CE.tm (tcC x k) && (CE.vl (tcC t k) == CE.vl (tcC x k) && CE.gn (tcC t k) == CE.gn (tcC t k)))))))))) with c8 | c8
     · have h:=h.1 c8
       exact loop_next [kv 69 hz0,kt hz1,kr [66,67,68,69,70] 4 hz2,kt hz3,kt hz4,kt hz5,kv 111 hz6,kt hz7,kv 117 hz8,kt c6,kf hz9,kc [] hz10,kc [] hz11,kf (show (!(CE.dv (tcC t k) == CE.dv (tcC x k) && (CE.sq (tcC t k) == CE.sq (tcC x k) && (CE.at' (tcC t k) == CE.at' (tcC x k) && (CE.ad (tcC t k) == CE.ad (tcC x k) && (CE.as' (tcC t k) == CE.as' (tcC x k) && (CE.aa (tcC t k) == CE.aa (tcC x k) && (CE.tm (tcC t k) == CE.tm (tcC x k) && (CE.vl (tcC t k) == CE.vl (tcC x k) && CE.gn (tcC t k) == CE.gn (tcC t k))))))))))=false from (congrArg Bool.not (c8))),kf (Eq.refl false),kf (Eq.refl false),kc [] hz13,kf (Eq.refl false),kv 72 (show Am.Sub (int (IntKind.wrap IntKind.i64 ((↑k:Int)+1))) (int (↑(k+1):Int)) from (Sub.of_wrap (by omega) (by omega) (by omega)))] (others 161 [2,3,4,7,11,12]) 4 h (by kernel_rfl)
     · have h:=h.2 c8
       obtain ⟨eX,eS⟩:=h
       exact RunL.to ((show RunL P G none 0 (loopAt P 7 0) (tuS t x a b c n met k) AEx.ret (St.mk (slots 161 []) [AObj.box [AV.sl 9 false (Sq.encs (TE.cells t)),AV.sl 11 false (encs (TE.marks t))],AObj.box [int a,int b,int c],AObj.box [AV.sl 9 false (Sq.encs (TE.cells x)),AV.sl 11 false (encs (TE.marks x))],AObj.box [AV.sl 9 false (Sq.encs (TE.cells x)),AV.sl 11 false (encs (TE.marks x))]] []) from loop_exit [kv 69 hz0,kt hz1,kr [66,67,68,69,70] 4 hz2,kt hz3,kt hz4,kt hz5,kv 111 hz6,kt hz7,kv 117 hz8,kt c6,kf hz9,kc [] hz10,kc [] hz11,kt (show (!(CE.dv (tcC t k) == CE.dv (tcC x k) && (CE.sq (tcC t k) == CE.sq (tcC x k) && (CE.at' (tcC t k) == CE.at' (tcC x k) && (CE.ad (tcC t k) == CE.ad (tcC x k) && (CE.as' (tcC t k) == CE.as' (tcC x k) && (CE.aa (tcC t k) == CE.aa (tcC x k) && (CE.tm (tcC t k) == CE.tm (tcC x k) && (CE.vl (tcC t k) == CE.vl (tcC x k) && CE.gn (tcC t k) == CE.gn (tcC t k))))))))))=true from (congrArg Bool.not (c8))),kt (Eq.refl true),kt (Eq.refl true),kt (Eq.refl true)] (others 161 []) 4 (by kernel_rfl))) eX (SubS.of_eq eS)
   · have h:=h.2 c7
     obtain ⟨eX,eS⟩:=h
     exact RunL.to ((show RunL P G none 0 (loopAt P 7 0) (tuS t x a b c n met k) AEx.ret (St.mk (slots 161 []) [AObj.box [AV.sl 9 false (Sq.encs (TE.cells t)),AV.sl 11 false (encs (TE.marks t))],AObj.box [int a,int b,int c],AObj.box [AV.sl 9 false (Sq.encs (TE.cells x)),AV.sl 11 false (encs (TE.marks x))],AObj.box [AV.sl 9 false (Sq.encs (TE.cells x)),AV.sl 11 false (encs (TE.marks x))]] []) from loop_exit [kv 69 hz0,kt hz1,kr [66,67,68,69,70] 4 hz2,kt hz3,kt hz4,kt hz5,kv 111 hz6,kt hz7,kv 117 hz8,kt c6,kt (show (!CE.gn (tcC x k) == true)=true from (congrArg Bool.not (c7)))] (others 161 []) 4 (by kernel_rfl))) eX (SubS.of_eq eS)
 · have h:=h.2 c6
   rcases Bool.eq_false_or_eq_true ((CE.gn (tcC x k) == decide (CE.at' (tcC t k) - c<n))) with c9 | c9
   · have h:=h.1 c9
     have hz17:(!CE.gn (tcC x k) == decide (CE.at' (tcC t k) - c<n))=false:=(congrArg Bool.not (c9))
     rcases Bool.eq_false_or_eq_true ((CE.dv (tcC t k) == CE.dv (tcC x k) && (CE.sq (tcC t k) == CE.sq (tcC x k) && (CE.at' (tcC t k) == CE.at' (tcC x k) && (CE.ad (tcC t k) == CE.ad (tcC x k) && (CE.as' (tcC t k) == CE.as' (tcC x k) && (CE.aa (tcC t k) == CE.aa (tcC x k) && (CE.tm (tcC t k) == CE.tm (tcC x k) && (CE.vl (tcC t k) == CE.vl (tcC x k) && CE.gn (tcC t k) == CE.gn (tcC t k)))))))))) with c10 | c10
     · have h:=h.1 c10
       exact loop_next [kv 69 hz0,kt hz1,kr [66,67,68,69,70] 4 hz2,kt hz3,kt hz4,kt hz5,kv 111 hz6,kt hz7,kv 117 hz8,kf c6,kf hz17,kc [] hz10,kc [] hz11,kf (show (!(CE.dv (tcC t k) == CE.dv (tcC x k) && (CE.sq (tcC t k) == CE.sq (tcC x k) && (CE.at' (tcC t k) == CE.at' (tcC x k) && (CE.ad (tcC t k) == CE.ad (tcC x k) && (CE.as' (tcC t k) == CE.as' (tcC x k) && (CE.aa (tcC t k) == CE.aa (tcC x k) && (CE.tm (tcC t k) == CE.tm (tcC x k) && (CE.vl (tcC t k) == CE.vl (tcC x k) && CE.gn (tcC t k) == CE.gn (tcC t k))))))))))=false from (congrArg Bool.not (c10))),kf (Eq.refl false),kf (Eq.refl false),kc [] hz13,kf (Eq.refl false),kv 72 (show Am.Sub (int (IntKind.wrap IntKind.i64 ((↑k:Int)+1))) (int (↑(k+1):Int)) from (Sub.of_wrap (by omega) (by omega) (by omega)))] (others 161 [2,3,4,7,11,12]) 4 h (by kernel_rfl)
     · have h:=h.2 c10
       obtain ⟨eX,eS⟩:=h
       exact RunL.to ((show RunL P G none 0 (loopAt P 7 0) (tuS t x a b c n met k) AEx.ret (St.mk (slots 161 []) [AObj.box [AV.sl 9 false (Sq.encs (TE.cells t)),AV.sl 11 false (encs (TE.marks t))],AObj.box [int a,int b,int c],AObj.box [AV.sl 9 false (Sq.encs (TE.cells x)),AV.sl 11 false (encs (TE.marks x))],AObj.box [AV.sl 9 false (Sq.encs (TE.cells x)),AV.sl 11 false (encs (TE.marks x))]] []) from loop_exit [kv 69 hz0,kt hz1,kr [66,67,68,69,70] 4 hz2,kt hz3,kt hz4,kt hz5,kv 111 hz6,kt hz7,kv 117 hz8,kf c6,kf hz17,kc [] hz10,kc [] hz11,kt (show (!(CE.dv (tcC t k) == CE.dv (tcC x k) && (CE.sq (tcC t k) == CE.sq (tcC x k) && (CE.at' (tcC t k) == CE.at' (tcC x k) && (CE.ad (tcC t k) == CE.ad (tcC x k) && (CE.as' (tcC t k) == CE.as' (tcC x k) && (CE.aa (tcC t k) == CE.aa (tcC x k) && (CE.tm (tcC t k) == CE.tm (tcC x k) && (CE.vl (tcC t k) == CE.vl (tcC x k) && CE.gn (tcC t k) == CE.gn (tcC t k))))))))))=true from (congrArg Bool.not (c10))),kt (Eq.refl true),kt (Eq.refl true),kt (Eq.refl true)] (others 161 []) 4 (by kernel_rfl))) eX (SubS.of_eq eS)
   · have h:=h.2 c9
     obtain ⟨eX,eS⟩:=h
     exact RunL.to ((show RunL P G none 0 (loopAt P 7 0) (tuS t x a b c n met k) AEx.ret (St.mk (slots 161 []) [AObj.box [AV.sl 9 false (Sq.encs (TE.cells t)),AV.sl 11 false (encs (TE.marks t))],AObj.box [int a,int b,int c],AObj.box [AV.sl 9 false (Sq.encs (TE.cells x)),AV.sl 11 false (encs (TE.marks x))],AObj.box [AV.sl 9 false (Sq.encs (TE.cells x)),AV.sl 11 false (encs (TE.marks x))]] []) from loop_exit [kv 69 hz0,kt hz1,kr [66,67,68,69,70] 4 hz2,kt hz3,kt hz4,kt hz5,kv 111 hz6,kt hz7,kv 117 hz8,kf c6,kt (show (!CE.gn (tcC x k) == decide (CE.at' (tcC t k) - c<n))=true from (congrArg Bool.not (c9)))] (others 161 []) 4 (by kernel_rfl))) eX (SubS.of_eq eS)
end Go.Tx


namespace Go.Tx
open Go Go.Am Go.Proofs Go.Seat
open Go.Sq (CE cel ces ida idv pid fX fiO OkRs OkR chkE)
theorem tu_n1 (t x:TE) (a b c n:Int) (met k:Nat) (ls:List Int) (hl:t.cells.length≤40) (hm:met≤40) (hk:(k:Int)<(t.cells.length:Int)) (hk1:k<t.cells.length) (hk2:k<x.cells.length) (r1:0≤(tcC t k).at') (r2:(tcC t k).at'≤63) (r3:0≤c) (r4:c≤63) (e1:(tcC t k).dv=(tcC x k).dv) (e2:(tcC t k).sq=(tcC x k).sq) (e3:(tcC t k).at'=(tcC x k).at') (e4:(tcC t k).ad=(tcC x k).ad) (e5:(tcC t k).as'=(tcC x k).as') (e6:(tcC t k).aa=(tcC x k).aa) (e7:(tcC t k).tm=(tcC x k).tm) (e8:(ByteArray.toList (tcC t k).vl == ByteArray.toList (tcC x k).vl)=true) (hg:(tcC x k).gn=(tcC t k).gn) (h1:¬ (tcC t k).dv=a) (hS:CallC P G 13 [txt t,int k] [] (.ret (.tup [ils ls,int 0])) []) (hT:CallC P G 13 [txt x,int k] [] (.ret (.tup [ils ls,int 0])) []) (hE:CallC P G 21 [ils ls,ils ls] [] (.ret (bool true)) []) (ex:AEx) (s':St) (h:((((CE.gn (tcC t k))=true)→((((CE.gn (tcC x k) == true)=true)→((((CE.dv (tcC t k) == CE.dv (tcC x k) && (CE.sq (tcC t k) == CE.sq (tcC x k) && (CE.at' (tcC t k) == CE.at' (tcC x k) && (CE.ad (tcC t k) == CE.ad (tcC x k) && (CE.as' (tcC t k) == CE.as' (tcC x k) && (CE.aa (tcC t k) == CE.aa (tcC x k) && (CE.tm (tcC t k) == CE.tm (tcC x k) && (CE.vl (tcC t k) == CE.vl (tcC x k) && CE.gn (tcC t k) == CE.gn (tcC t k)))))))))=true)→RunL P G none 0 (loopAt P 7 0) (St.mk (slots 161 [(2,int n),(3,AV.ptr 0 0),(4,AV.ptr 1 0),(7,AV.ptr 2 0),(11,int (↑met:Int)),(12,int (↑(k+1):Int))]) [AObj.box [AV.sl 9 false (Sq.encs (TE.cells t)),AV.sl 11 false (encs (TE.marks t))],AObj.box [int a,int b,int c],AObj.box [AV.sl 9 false (Sq.encs (TE.cells x)),AV.sl 11 false (encs (TE.marks x))],AObj.box [AV.sl 9 false (Sq.encs (TE.cells x)),AV.sl 11 false (encs (TE.marks x))]] []) ex s')∧(((CE.dv (tcC t k) == CE.dv (tcC x k) && (CE.sq (tcC t k) == CE.sq (tcC x k) && (CE.at' (tcC t k) == CE.at' (tcC x k) && (CE.ad (tcC t k) == CE.ad (tcC x k) && (CE.as' (tcC t k) == CE.as' (tcC x k) && (CE.aa (tcC t k) == CE.aa (tcC x k) && (CE.tm (tcC t k) == CE.tm (tcC x k) && (CE.vl (tcC t k) == CE.vl (tcC x k) && CE.gn (tcC t k) == CE.gn (tcC t k)))))))))=false)→(AEx.ret=ex)∧(St.mk (slots 161 []) [AObj.box [AV.sl 9 false (Sq.encs (TE.cells t)),AV.sl 11 false (encs (TE.marks t))],AObj.box [int a,int b,int c],AObj.box [AV.sl 9 false (Sq.encs (TE.cells x)),AV.sl 11 false (encs (TE.marks x))],AObj.box [AV.sl 9 false (Sq.encs (TE.cells x)),AV.sl 11 false (encs (TE.marks x))]] []=s'))))∧(((CE.gn (tcC x k) == true)=false)→(AEx.ret=ex)∧(St.mk (slots 161 []) [AObj.box [AV.sl 9 false (Sq.encs (TE.cells t)),AV.sl 11 false (encs (TE.marks t))],AObj.box [int a,int b,int c],AObj.box [AV.sl 9 false (Sq.encs (TE.cells x)),AV.sl 11 false (encs (TE.marks x))],AObj.box [AV.sl 9 false (Sq.encs (TE.cells x)),AV.sl 11 false (encs (TE.marks x))]] []=s'))))∧(((CE.gn (tcC t k))=false)→((((CE.gn (tcC x k) == false)=true)→((((CE.dv (tcC t k) == CE.dv (tcC x k) && (CE.sq (tcC t k) == CE.sq (tcC x k) && (CE.at' (tcC t k) == CE.at' (tcC x k) && (CE.ad (tcC t k) == CE.ad (tcC x k) && (CE.as' (tcC t k) == CE.as' (tcC x k) && (CE.aa (tcC t k) == CE.aa (tcC x k) && (CE.tm (tcC t k) == CE.tm (tcC x k) && (CE.vl (tcC t k) == CE.vl (tcC x k) && CE.gn (tcC t k) == CE.gn (tcC t k)))))))))=true)→RunL P G none 0 (loopAt P 7 0) (St.mk (slots 161 [(2,int n),(3,AV.ptr 0 0),(4,AV.ptr 1 0),(7,AV.ptr 2 0),(11,int (↑met:Int)),(12,int (↑(k+1):Int))]) [AObj.box [AV.sl 9 false (Sq.encs (TE.cells t)),AV.sl 11 false (encs (TE.marks t))],AObj.box [int a,int b,int c],AObj.box [AV.sl 9 false (Sq.encs (TE.cells x)),AV.sl 11 false (encs (TE.marks x))],AObj.box [AV.sl 9 false (Sq.encs (TE.cells x)),AV.sl 11 false (encs (TE.marks x))]] []) ex s')∧(((CE.dv (tcC t k) == CE.dv (tcC x k) && (CE.sq (tcC t k) == CE.sq (tcC x k) && (CE.at' (tcC t k) == CE.at' (tcC x k) && (CE.ad (tcC t k) == CE.ad (tcC x k) && (CE.as' (tcC t k) == CE.as' (tcC x k) && (CE.aa (tcC t k) == CE.aa (tcC x k) && (CE.tm (tcC t k) == CE.tm (tcC x k) && (CE.vl (tcC t k) == CE.vl (tcC x k) && CE.gn (tcC t k) == CE.gn (tcC t k)))))))))=false)→(AEx.ret=ex)∧(St.mk (slots 161 []) [AObj.box [AV.sl 9 false (Sq.encs (TE.cells t)),AV.sl 11 false (encs (TE.marks t))],AObj.box [int a,int b,int c],AObj.box [AV.sl 9 false (Sq.encs (TE.cells x)),AV.sl 11 false (encs (TE.marks x))],AObj.box [AV.sl 9 false (Sq.encs (TE.cells x)),AV.sl 11 false (encs (TE.marks x))]] []=s'))))∧(((CE.gn (tcC x k) == false)=false)→(AEx.ret=ex)∧(St.mk (slots 161 []) [AObj.box [AV.sl 9 false (Sq.encs (TE.cells t)),AV.sl 11 false (encs (TE.marks t))],AObj.box [int a,int b,int c],AObj.box [AV.sl 9 false (Sq.encs (TE.cells x)),AV.sl 11 false (encs (TE.marks x))],AObj.box [AV.sl 9 false (Sq.encs (TE.cells x)),AV.sl 11 false (encs (TE.marks x))]] []=s')))))):RunL P G none 0 (loopAt P 7 0) (tuS t x a b c n met k) ex s':=by
 have hz0:Am.Sub (int (↑(List.length (Sq.encs (TE.cells t))):Int)) (int (↑(List.length (TE.cells t)):Int)):=(Sub.of_eq (by simp only [Go.Sq.encs_length]))
 have hz1:decide ((↑k:Int)<(↑(List.length (TE.cells t)):Int))=true:=(decide_eq_true (by omega))
 have hz2:=(@Go.Tx.reg3_tc (t) (x) (a) (b) (c) (n) (met) (k) (by omega) (by omega))
 have hz3:(CE.dv (tcC t k) == a)=false:=(decide_eq_false (by omega))
 have hz5:=(@hS )
 have hz6:=(@hT )
 have hz8:=(@hE )
 rcases Bool.eq_false_or_eq_true ((CE.gn (tcC t k))) with c3 | c3
 · have h:=h.1 c3
   rcases Bool.eq_false_or_eq_true ((CE.gn (tcC x k) == true)) with c4 | c4
   · have h:=h.1 c4
     have hz4:(!CE.gn (tcC x k) == true)=false:=(congrArg Bool.not (c4))
     rcases Bool.eq_false_or_eq_true ((CE.dv (tcC t k) == CE.dv (tcC x k) && (CE.sq (tcC t k) == CE.sq (tcC x k) && (CE.at' (tcC t k) == CE.at' (tcC x k) && (CE.ad (tcC t k) == CE.ad (tcC x k) && (CE.as' (tcC t k) == CE.as' (tcC x k) && (CE.aa (tcC t k) == CE.aa (tcC x k) && (CE.tm (tcC t k) == CE.tm (tcC x k) && (CE.vl (tcC t k) == CE.vl (tcC x k) && CE.gn (tcC t k) == CE.gn (tcC t k)))))))))) with c5 | c5
     · have h:=h.1 c5
       exact loop_next [kv 69 hz0,kt hz1,kr [66,67,68,69,70] 4 hz2,kf hz3,kf (Eq.refl false),kf (Eq.refl false),kf (Eq.refl false),kt c3,kf hz4,kc [] hz5,kc [] hz6,kf (show (!(CE.dv (tcC t k) == CE.dv (tcC x k) && (CE.sq (tcC t k) == CE.sq (tcC x k) && (CE.at' (tcC t k) == CE.at' (tcC x k) && (CE.ad (tcC t k) == CE.ad (tcC x k) && (CE.as' (tcC t k) == CE.as' (tcC x k) && (CE.aa (tcC t k) == CE.aa (tcC x k) && (CE.tm (tcC t k) == CE.tm (tcC x k) && (CE.vl (tcC t k) == CE.vl (tcC x k) && CE.gn (tcC t k) == CE.gn (tcC t k))))))))))=false from (congrArg Bool.not (c5))),kf (Eq.refl false),kf (Eq.refl false),kc [] hz8,kf (Eq.refl false),kv 72 (show Am.Sub (int (IntKind.wrap IntKind.i64 ((↑k:Int)+1))) (int (↑(k+1):Int)) from (Sub.of_wrap (by omega) (by omega) (by omega)))] (others 161 [2,3,4,7,11,12]) 4 h (by kernel_rfl)
     · have h:=h.2 c5
       obtain ⟨eX,eS⟩:=h
       exact RunL.to ((show RunL P G none 0 (loopAt P 7 0) (tuS t x a b c n met k) AEx.ret (St.mk (slots 161 []) [AObj.box [AV.sl 9 false (Sq.encs (TE.cells t)),AV.sl 11 false (encs (TE.marks t))],AObj.box [int a,int b,int c],AObj.box [AV.sl 9 false (Sq.encs (TE.cells x)),AV.sl 11 false (encs (TE.marks x))],AObj.box [AV.sl 9 false (Sq.encs (TE.cells x)),AV.sl 11 false (encs (TE.marks x))]] []) from loop_exit [kv 69 hz0,kt hz1,kr [66,67,68,69,70] 4 hz2,kf hz3,kf (Eq.refl false),kf (Eq.refl false),kf (Eq.refl false),kt c3,kf hz4,kc [] hz5,kc [] hz6,kt (show (!(CE.dv (tcC t k) == CE.dv (tcC x k) && (CE.sq (tcC t k) == CE.sq (tcC x k) && (CE.at' (tcC t k) == CE.at' (tcC x k) && (CE.ad (tcC t k) == CE.ad (tcC x k) && (CE.as' (tcC t k) == CE.as' (tcC x k) && (CE.aa (tcC t k) == CE.aa (tcC x k) && (CE.tm (tcC t k) == CE.tm (tcC x k) && (CE.vl (tcC t k) == CE.vl (tcC x k) && CE.gn (tcC t k) == CE.gn (tcC t k))))))))))=true from (congrArg Bool.not (c5))),kt (Eq.refl true),kt (Eq.refl true),kt (Eq.refl true)] (others 161 []) 4 (by kernel_rfl))) eX (SubS.of_eq eS)
   · have h:=h.2 c4
     obtain ⟨eX,eS⟩:=h
     exact RunL.to ((show RunL P G none 0 (loopAt P 7 0) (tuS t x a b c n met k) AEx.ret (St.mk (slots 161 []) [AObj.box [AV.sl 9 false (Sq.encs (TE.cells t)),AV.sl 11 false (encs (TE.marks t))],AObj.box [int a,int b,int c],AObj.box [AV.sl 9 false (Sq.encs (TE.cells x)),AV.sl 11 false (encs (TE.marks x))],AObj.box [AV.sl 9 false (Sq.encs (TE.cells x)),AV.sl 11 false (encs (TE.marks x))]] []) from loop_exit [kv 69 hz0,kt hz1,kr [66,67,68,69,70] 4 hz2,kf hz3,kf (Eq.refl false),kf (Eq.refl false),kf (Eq.refl false),kt c3,kt (show (!CE.gn (tcC x k) == true)=true from (congrArg Bool.not (c4)))] (others 161 []) 4 (by kernel_rfl))) eX (SubS.of_eq eS)
 · have h:=h.2 c3
   rcases Bool.eq_false_or_eq_true ((CE.gn (tcC x k) == false)) with c6 | c6
   · have h:=h.1 c6
     have hz12:(!CE.gn (tcC x k) == false)=false:=(congrArg Bool.not (c6))
     rcases Bool.eq_false_or_eq_true ((CE.dv (tcC t k) == CE.dv (tcC x k) && (CE.sq (tcC t k) == CE.sq (tcC x k) && (CE.at' (tcC t k) == CE.at' (tcC x k) && (CE.ad (tcC t k) == CE.ad (tcC x k) && (CE.as' (tcC t k) == CE.as' (tcC x k) && (CE.aa (tcC t k) == CE.aa (tcC x k) && (CE.tm (tcC t k) == CE.tm (tcC x k) && (CE.vl (tcC t k) == CE.vl (tcC x k) && CE.gn (tcC t k) == CE.gn (tcC t k)))))))))) with c7 | c7
     · have h:=h.1 c7
       exact loop_next [kv 69 hz0,kt hz1,kr [66,67,68,69,70] 4 hz2,kf hz3,kf (Eq.refl false),kf (Eq.refl false),kf (Eq.refl false),kf c3,kf hz12,kc [] hz5,kc [] hz6,kf (show (!(CE.dv (tcC t k) == CE.dv (tcC x k) && (CE.sq (tcC t k) == CE.sq (tcC x k) && (CE.at' (tcC t k) == CE.at' (tcC x k) && (CE.ad (tcC t k) == CE.ad (tcC x k) && (CE.as' (tcC t k) == CE.as' (tcC x k) && (CE.aa (tcC t k) == CE.aa (tcC x k) && (CE.tm (tcC t k) == CE.tm (tcC x k) && (CE.vl (tcC t k) == CE.vl (tcC x k) && CE.gn (tcC t k) == CE.gn (tcC t k))))))))))=false from (congrArg Bool.not (c7))),kf (Eq.refl false),kf (Eq.refl false),kc [] hz8,kf (Eq.refl false),kv 72 (show Am.Sub (int (IntKind.wrap IntKind.i64 ((↑k:Int)+1))) (int (↑(k+1):Int)) from (Sub.of_wrap (by omega) (by omega) (by omega)))] (others 161 [2,3,4,7,11,12]) 4 h (by kernel_rfl)
     · have h:=h.2 c7
       obtain ⟨eX,eS⟩:=h
       exact RunL.to ((show RunL P G none 0 (loopAt P 7 0) (tuS t x a b c n met k) AEx.ret (St.mk (slots 161 []) [AObj.box [AV.sl 9 false (Sq.encs (TE.cells t)),AV.sl 11 false (encs (TE.marks t))],AObj.box [int a,int b,int c],AObj.box [AV.sl 9 false (Sq.encs (TE.cells x)),AV.sl 11 false (encs (TE.marks x))],AObj.box [AV.sl 9 false (Sq.encs (TE.cells x)),AV.sl 11 false (encs (TE.marks x))]] []) from loop_exit [kv 69 hz0,kt hz1,kr [66,67,68,69,70] 4 hz2,kf hz3,kf (Eq.refl false),kf (Eq.refl false),kf (Eq.refl false),kf c3,kf hz12,kc [] hz5,kc [] hz6,kt (show (!(CE.dv (tcC t k) == CE.dv (tcC x k) && (CE.sq (tcC t k) == CE.sq (tcC x k) && (CE.at' (tcC t k) == CE.at' (tcC x k) && (CE.ad (tcC t k) == CE.ad (tcC x k) && (CE.as' (tcC t k) == CE.as' (tcC x k) && (CE.aa (tcC t k) == CE.aa (tcC x k) && (CE.tm (tcC t k) == CE.tm (tcC x k) && (CE.vl (tcC t k) == CE.vl (tcC x k) && CE.gn (tcC t k) == CE.gn (tcC t k))))))))))=true from (congrArg Bool.not (c7))),kt (Eq.refl true),kt (Eq.refl true),kt (Eq.refl true)] (others 161 []) 4 (by kernel_rfl))) eX (SubS.of_eq eS)
   · have h:=h.2 c6
     obtain ⟨eX,eS⟩:=h
     exact RunL.to ((show RunL P G none 0 (loopAt P 7 0) (tuS t x a b c n met k) AEx.ret (St.mk (slots 161 []) [AObj.box [AV.sl 9 false (Sq.encs (TE.cells t)),AV.sl 11 false (encs (TE.marks t))],AObj.box [int a,int b,int c],AObj.box [AV.sl 9 false (Sq.encs (TE.cells x)),AV.sl 11 false (encs (TE.marks x))],AObj.box [AV.sl 9 false (Sq.encs (TE.cells x)),AV.sl 11 false (encs (TE.marks x))]] []) from loop_exit [kv 69 hz0,kt hz1,kr [66,67,68,69,70] 4 hz2,kf hz3,kf (Eq.refl false),kf (Eq.refl false),kf (Eq.refl false),kf c3,kt (show (!CE.gn (tcC x k) == false)=true from (congrArg Bool.not (c6)))] (others 161 []) 4 (by kernel_rfl))) eX (SubS.of_eq eS)
end Go.Tx


namespace Go.Tx
open Go Go.Am Go.Proofs Go.Seat
open Go.Sq (CE cel ces ida idv pid fX fiO OkRs OkR chkE)
theorem tu_n2 (t x:TE) (a b c n:Int) (met k:Nat) (ls:List Int) (hl:t.cells.length≤40) (hm:met≤40) (hk:(k:Int)<(t.cells.length:Int)) (hk1:k<t.cells.length) (hk2:k<x.cells.length) (r1:0≤(tcC t k).at') (r2:(tcC t k).at'≤63) (r3:0≤c) (r4:c≤63) (e1:(tcC t k).dv=(tcC x k).dv) (e2:(tcC t k).sq=(tcC x k).sq) (e3:(tcC t k).at'=(tcC x k).at') (e4:(tcC t k).ad=(tcC x k).ad) (e5:(tcC t k).as'=(tcC x k).as') (e6:(tcC t k).aa=(tcC x k).aa) (e7:(tcC t k).tm=(tcC x k).tm) (e8:(ByteArray.toList (tcC t k).vl == ByteArray.toList (tcC x k).vl)=true) (hg:(tcC x k).gn=(tcC t k).gn) (h1:(tcC t k).dv=a) (h2:¬ (tcC t k).sq=b) (hS:CallC P G 13 [txt t,int k] [] (.ret (.tup [ils ls,int 0])) []) (hT:CallC P G 13 [txt x,int k] [] (.ret (.tup [ils ls,int 0])) []) (hE:CallC P G 21 [ils ls,ils ls] [] (.ret (bool true)) []) (ex:AEx) (s':St) (h:((((CE.gn (tcC t k))=true)→((((CE.gn (tcC x k) == true)=true)→((((CE.dv (tcC t k) == CE.dv (tcC x k) && (CE.sq (tcC t k) == CE.sq (tcC x k) && (CE.at' (tcC t k) == CE.at' (tcC x k) && (CE.ad (tcC t k) == CE.ad (tcC x k) && (CE.as' (tcC t k) == CE.as' (tcC x k) && (CE.aa (tcC t k) == CE.aa (tcC x k) && (CE.tm (tcC t k) == CE.tm (tcC x k) && (CE.vl (tcC t k) == CE.vl (tcC x k) && CE.gn (tcC t k) == CE.gn (tcC t k)))))))))=true)→RunL P G none 0 (loopAt P 7 0) (St.mk (slots 161 [(2,int n),(3,AV.ptr 0 0),(4,AV.ptr 1 0),(7,AV.ptr 2 0),(11,int (↑met:Int)),(12,int (↑(k+1):Int))]) [AObj.box [AV.sl 9 false (Sq.encs (TE.cells t)),AV.sl 11 false (encs (TE.marks t))],AObj.box [int a,int b,int c],AObj.box [AV.sl 9 false (Sq.encs (TE.cells x)),AV.sl 11 false (encs (TE.marks x))],AObj.box [AV.sl 9 false (Sq.encs (TE.cells x)),AV.sl 11 false (encs (TE.marks x))]] []) ex s')∧(((CE.dv (tcC t k) == CE.dv (tcC x k) && (CE.sq (tcC t k) == CE.sq (tcC x k) && (CE.at' (tcC t k) == CE.at' (tcC x k) && (CE.ad (tcC t k) == CE.ad (tcC x k) && (CE.as' (tcC t k) == CE.as' (tcC x k) && (CE.aa (tcC t k) == CE.aa (tcC x k) && (CE.tm (tcC t k) == CE.tm (tcC x k) && (CE.vl (tcC t k) == CE.vl (tcC x k) && CE.gn (tcC t k) == CE.gn (tcC t k)))))))))=false)→(AEx.ret=ex)∧(St.mk (slots 161 []) [AObj.box [AV.sl 9 false (Sq.encs (TE.cells t)),AV.sl 11 false (encs (TE.marks t))],AObj.box [int a,int b,int c],AObj.box [AV.sl 9 false (Sq.encs (TE.cells x)),AV.sl 11 false (encs (TE.marks x))],AObj.box [AV.sl 9 false (Sq.encs (TE.cells x)),AV.sl 11 false (encs (TE.marks x))]] []=s'))))∧(((CE.gn (tcC x k) == true)=false)→(AEx.ret=ex)∧(St.mk (slots 161 []) [AObj.box [AV.sl 9 false (Sq.encs (TE.cells t)),AV.sl 11 false (encs (TE.marks t))],AObj.box [int a,int b,int c],AObj.box [AV.sl 9 false (Sq.encs (TE.cells x)),AV.sl 11 false (encs (TE.marks x))],AObj.box [AV.sl 9 false (Sq.encs (TE.cells x)),AV.sl 11 false (encs (TE.marks x))]] []=s'))))∧(((CE.gn (tcC t k))=false)→((((CE.gn (tcC x k) == false)=true)→((((CE.dv (tcC t k) == CE.dv (tcC x k) && (CE.sq (tcC t k) == CE.sq (tcC x k) && (CE.at' (tcC t k) == CE.at' (tcC x k) && (CE.ad (tcC t k) == CE.ad (tcC x k) && (CE.as' (tcC t k) == CE.as' (tcC x k) && (CE.aa (tcC t k) == CE.aa (tcC x k) && (CE.tm (tcC t k) == CE.tm (tcC x k) && (CE.vl (tcC t k) == CE.vl (tcC x k) && CE.gn (tcC t k) == CE.gn (tcC t k)))))))))=true)→RunL P G none 0 (loopAt P 7 0) (St.mk (slots 161 [(2,int n),(3,AV.ptr 0 0),(4,AV.ptr 1 0),(7,AV.ptr 2 0),(11,int (↑met:Int)),(12,int (↑(k+1):Int))]) [AObj.box [AV.sl 9 false (Sq.encs (TE.cells t)),AV.sl 11 false (encs (TE.marks t))],AObj.box [int a,int b,int c],AObj.box [AV.sl 9 false (Sq.encs (TE.cells x)),AV.sl 11 false (encs (TE.marks x))],AObj.box [AV.sl 9 false (Sq.encs (TE.cells x)),AV.sl 11 false (encs (TE.marks x))]] []) ex s')∧(((CE.dv (tcC t k) == CE.dv (tcC x k) && (CE.sq (tcC t k) == CE.sq (tcC x k) && (CE.at' (tcC t k) == CE.at' (tcC x k) && (CE.ad (tcC t k) == CE.ad (tcC x k) && (CE.as' (tcC t k) == CE.as' (tcC x k) && (CE.aa (tcC t k) == CE.aa (tcC x k) && (CE.tm (tcC t k) == CE.tm (tcC x k) && (CE.vl (tcC t k) == CE.vl (tcC x k) && CE.gn (tcC t k) == CE.gn (tcC t k)))))))))=false)→(AEx.ret=ex)∧(St.mk (slots 161 []) [AObj.box [AV.sl 9 false (Sq.encs (TE.cells t)),AV.sl 11 false (encs (TE.marks t))],AObj.box [int a,int b,int c],AObj.box [AV.sl 9 false (Sq.encs (TE.cells x)),AV.sl 11 false (encs (TE.marks x))],AObj.box [AV.sl 9 false (Sq.encs (TE.cells x)),AV.sl 11 false (encs (TE.marks x))]] []=s'))))∧(((CE.gn (tcC x k) == false)=false)→(AEx.ret=ex)∧(St.mk (slots 161 []) [AObj.box [AV.sl 9 false (Sq.encs (TE.cells t)),AV.sl 11 false (encs (TE.marks t))],AObj.box [int a,int b,int c],AObj.box [AV.sl 9 false (Sq.encs (TE.cells x)),AV.sl 11 false (encs (TE.marks x))],AObj.box [AV.sl 9 false (Sq.encs (TE.cells x)),AV.sl 11 false (encs (TE.marks x))]] []=s')))))):RunL P G none 0 (loopAt P 7 0) (tuS t x a b c n met k) ex s':=by
 have hz0:Am.Sub (int (↑(List.length (Sq.encs (TE.cells t))):Int)) (int (↑(List.length (TE.cells t)):Int)):=(Sub.of_eq (by simp only [Go.Sq.encs_length]))
 have hz1:decide ((↑k:Int)<(↑(List.length (TE.cells t)):Int))=true:=(decide_eq_true (by omega))
 have hz2:=(@Go.Tx.reg3_tc (t) (x) (a) (b) (c) (n) (met) (k) (by omega) (by omega))
 have hz3:(CE.dv (tcC t k) == a)=true:=(decide_eq_true (by omega))
 have hz4:(CE.sq (tcC t k) == b)=false:=(decide_eq_false (by omega))
 have hz6:=(@hS )
 have hz7:=(@hT )
 have hz9:=(@hE )
 rcases Bool.eq_false_or_eq_true ((CE.gn (tcC t k))) with c4 | c4
 · have h:=h.1 c4
   rcases Bool.eq_false_or_eq_true ((CE.gn (tcC x k) == true)) with c5 | c5
   · have h:=h.1 c5
     have hz5:(!CE.gn (tcC x k) == true)=false:=(congrArg Bool.not (c5))
     rcases Bool.eq_false_or_eq_true ((CE.dv (tcC t k) == CE.dv (tcC x k) && (CE.sq (tcC t k) == CE.sq (tcC x k) && (CE.at' (tcC t k) == CE.at' (tcC x k) && (CE.ad (tcC t k) == CE.ad (tcC x k) && (CE.as' (tcC t k) == CE.as' (tcC x k) && (CE.aa (tcC t k) == CE.aa (tcC x k) && (CE.tm (tcC t k) == CE.tm (tcC x k) && (CE.vl (tcC t k) == CE.vl (tcC x k) && CE.gn (tcC t k) == CE.gn (tcC t k)))))))))) with c6 | c6
     · have h:=h.1 c6
       exact loop_next [kv 69 hz0,kt hz1,kr [66,67,68,69,70] 4 hz2,kt hz3,kf hz4,kf (Eq.refl false),kf (Eq.refl false),kt c4,kf hz5,kc [] hz6,kc [] hz7,kf (show (!(CE.dv (tcC t k) == CE.dv (tcC x k) && (CE.sq (tcC t k) == CE.sq (tcC x k) && (CE.at' (tcC t k) == CE.at' (tcC x k) && (CE.ad (tcC t k) == CE.ad (tcC x k) && (CE.as' (tcC t k) == CE.as' (tcC x k) && (CE.aa (tcC t k) == CE.aa (tcC x k) && (CE.tm (tcC t k) == CE.tm (tcC x k) && (CE.vl (tcC t k) == CE.vl (tcC x k) && CE.gn (tcC t k) == CE.gn (tcC t k))))))))))=false from (congrArg Bool.not (c6))),kf (Eq.refl false),kf (Eq.refl false),kc [] hz9,kf (Eq.refl false),kv 72 (show Am.Sub (int (IntKind.wrap IntKind.i64 ((↑k:Int)+1))) (int (↑(k+1):Int)) from (Sub.of_wrap (by omega) (by omega) (by omega)))] (others 161 [2,3,4,7,11,12]) 4 h (by kernel_rfl)
     · have h:=h.2 c6
       obtain ⟨eX,eS⟩:=h
       exact RunL.to ((show RunL P G none 0 (loopAt P 7 0) (tuS t x a b c n met k) AEx.ret (St.mk (slots 161 []) [AObj.box [AV.sl 9 false (Sq.encs (TE.cells t)),AV.sl 11 false (encs (TE.marks t))],AObj.box [int a,int b,int c],AObj.box [AV.sl 9 false (Sq.encs (TE.cells x)),AV.sl 11 false (encs (TE.marks x))],AObj.box [AV.sl 9 false (Sq.encs (TE.cells x)),AV.sl 11 false (encs (TE.marks x))]] []) from loop_exit [kv 69 hz0,kt hz1,kr [66,67,68,69,70] 4 hz2,kt hz3,kf hz4,kf (Eq.refl false),kf (Eq.refl false),kt c4,kf hz5,kc [] hz6,kc [] hz7,kt (show (!(CE.dv (tcC t k) == CE.dv (tcC x k) && (CE.sq (tcC t k) == CE.sq (tcC x k) && (CE.at' (tcC t k) == CE.at' (tcC x k) && (CE.ad (tcC t k) == CE.ad (tcC x k) && (CE.as' (tcC t k) == CE.as' (tcC x k) && (CE.aa (tcC t k) == CE.aa (tcC x k) && (CE.tm (tcC t k) == CE.tm (tcC x k) && (CE.vl (tcC t k) == CE.vl (tcC x k) && CE.gn (tcC t k) == CE.gn (tcC t k))))))))))=true from (congrArg Bool.not (c6))),kt (Eq.refl true),kt (Eq.refl true),kt (Eq.refl true)] (others 161 []) 4 (by kernel_rfl))) eX (SubS.of_eq eS)
   · have h:=h.2 c5
     obtain ⟨eX,eS⟩:=h
     exact RunL.to ((show RunL P G none 0 (loopAt P 7 0) (tuS t x a b c n met k) AEx.ret (St.mk (slots 161 []) [AObj.box [AV.sl 9 false (Sq.encs (TE.cells t)),AV.sl 11 false (encs (TE.marks t))],AObj.box [int a,int b,int c],AObj.box [AV.sl 9 false (Sq.encs (TE.cells x)),AV.sl 11 false (encs (TE.marks x))],AObj.box [AV.sl 9 false (Sq.encs (TE.cells x)),AV.sl 11 false (encs (TE.marks x))]] []) from loop_exit [kv 69 hz0,kt hz1,kr [66,67,68,69,70] 4 hz2,kt hz3,kf hz4,kf (Eq.refl false),kf (Eq.refl false),kt c4,kt (show (!CE.gn (tcC x k) == true)=true from (congrArg Bool.not (c5)))] (others 161 []) 4 (by kernel_rfl))) eX (SubS.of_eq eS)
 · have h:=h.2 c4
   rcases Bool.eq_false_or_eq_true ((CE.gn (tcC x k) == false)) with c7 | c7
   · have h:=h.1 c7
     have hz13:(!CE.gn (tcC x k) == false)=false:=(congrArg Bool.not (c7))
     rcases Bool.eq_false_or_eq_true ((CE.dv (tcC t k) == CE.dv (tcC x k) && (CE.sq (tcC t k) == CE.sq (tcC x k) && (CE.at' (tcC t k) == CE.at' (tcC x k) && (CE.ad (tcC t k) == CE.ad (tcC x k) && (CE.as' (tcC t k) == CE.as' (tcC x k) && (CE.aa (tcC t k) == CE.aa (tcC x k) && (CE.tm (tcC t k) == CE.tm (tcC x k) && (CE.vl (tcC t k) == CE.vl (tcC x k) && CE.gn (tcC t k) == CE.gn (tcC t k)))))))))) with c8 | c8
     · have h:=h.1 c8
       exact loop_next [kv 69 hz0,kt hz1,kr [66,67,68,69,70] 4 hz2,kt hz3,kf hz4,kf (Eq.refl false),kf (Eq.refl false),kf c4,kf hz13,kc [] hz6,kc [] hz7,kf (show (!(CE.dv (tcC t k) == CE.dv (tcC x k) && (CE.sq (tcC t k) == CE.sq (tcC x k) && (CE.at' (tcC t k) == CE.at' (tcC x k) && (CE.ad (tcC t k) == CE.ad (tcC x k) && (CE.as' (tcC t k) == CE.as' (tcC x k) && (CE.aa (tcC t k) == CE.aa (tcC x k) && (CE.tm (tcC t k) == CE.tm (tcC x k) && (CE.vl (tcC t k) == CE.vl (tcC x k) && CE.gn (tcC t k) == CE.gn (tcC t k))))))))))=false from (congrArg Bool.not (c8))),kf (Eq.refl false),kf (Eq.refl false),kc [] hz9,kf (Eq.refl false),kv 72 (show Am.Sub (int (IntKind.wrap IntKind.i64 ((↑k:Int)+1))) (int (↑(k+1):Int)) from (Sub.of_wrap (by omega) (by omega) (by omega)))] (others 161 [2,3,4,7,11,12]) 4 h (by kernel_rfl)
     · have h:=h.2 c8
       obtain ⟨eX,eS⟩:=h
       exact RunL.to ((show RunL P G none 0 (loopAt P 7 0) (tuS t x a b c n met k) AEx.ret (St.mk (slots 161 []) [AObj.box [AV.sl 9 false (Sq.encs (TE.cells t)),AV.sl 11 false (encs (TE.marks t))],AObj.box [int a,int b,int c],AObj.box [AV.sl 9 false (Sq.encs (TE.cells x)),AV.sl 11 false (encs (TE.marks x))],AObj.box [AV.sl 9 false (Sq.encs (TE.cells x)),AV.sl 11 false (encs (TE.marks x))]] []) from loop_exit [kv 69 hz0,kt hz1,kr [66,67,68,69,70] 4 hz2,kt hz3,kf hz4,kf (Eq.refl false),kf (Eq.refl false),kf c4,kf hz13,kc [] hz6,kc [] hz7,kt (show (!(CE.dv (tcC t k) == CE.dv (tcC x k) && (CE.sq (tcC t k) == CE.sq (tcC x k) && (CE.at' (tcC t k) == CE.at' (tcC x k) && (CE.ad (tcC t k) == CE.ad (tcC x k) && (CE.as' (tcC t k) == CE.as' (tcC x k) && (CE.aa (tcC t k) == CE.aa (tcC x k) && (CE.tm (tcC t k) == CE.tm (tcC x k) && (CE.vl (tcC t k) == CE.vl (tcC x k) && CE.gn (tcC t k) == CE.gn (tcC t k))))))))))=true from (congrArg Bool.not (c8))),kt (Eq.refl true),kt (Eq.refl true),kt (Eq.refl true)] (others 161 []) 4 (by kernel_rfl))) eX (SubS.of_eq eS)
   · have h:=h.2 c7
     obtain ⟨eX,eS⟩:=h
     exact RunL.to ((show RunL P G none 0 (loopAt P 7 0) (tuS t x a b c n met k) AEx.ret (St.mk (slots 161 []) [AObj.box [AV.sl 9 false (Sq.encs (TE.cells t)),AV.sl 11 false (encs (TE.marks t))],AObj.box [int a,int b,int c],AObj.box [AV.sl 9 false (Sq.encs (TE.cells x)),AV.sl 11 false (encs (TE.marks x))],AObj.box [AV.sl 9 false (Sq.encs (TE.cells x)),AV.sl 11 false (encs (TE.marks x))]] []) from loop_exit [kv 69 hz0,kt hz1,kr [66,67,68,69,70] 4 hz2,kt hz3,kf hz4,kf (Eq.refl false),kf (Eq.refl false),kf c4,kt (show (!CE.gn (tcC x k) == false)=true from (congrArg Bool.not (c7)))] (others 161 []) 4 (by kernel_rfl))) eX (SubS.of_eq eS)
end Go.Tx


namespace Go.Tx
open Go Go.Am Go.Proofs Go.Seat
open Go.Sq (CE cel ces ida idv pid fX fiO OkRs OkR chkE)
theorem tu_n3 (t x:TE) (a b c n:Int) (met k:Nat) (ls:List Int) (hl:t.cells.length≤40) (hm:met≤40) (hk:(k:Int)<(t.cells.length:Int)) (hk1:k<t.cells.length) (hk2:k<x.cells.length) (r1:0≤(tcC t k).at') (r2:(tcC t k).at'≤63) (r3:0≤c) (r4:c≤63) (e1:(tcC t k).dv=(tcC x k).dv) (e2:(tcC t k).sq=(tcC x k).sq) (e3:(tcC t k).at'=(tcC x k).at') (e4:(tcC t k).ad=(tcC x k).ad) (e5:(tcC t k).as'=(tcC x k).as') (e6:(tcC t k).aa=(tcC x k).aa) (e7:(tcC t k).tm=(tcC x k).tm) (e8:(ByteArray.toList (tcC t k).vl == ByteArray.toList (tcC x k).vl)=true) (hg:(tcC x k).gn=(tcC t k).gn) (h1:(tcC t k).dv=a) (h2:(tcC t k).sq=b) (h3:¬ (tcC t k).at'≥c) (hS:CallC P G 13 [txt t,int k] [] (.ret (.tup [ils ls,int 0])) []) (hT:CallC P G 13 [txt x,int k] [] (.ret (.tup [ils ls,int 0])) []) (hE:CallC P G 21 [ils ls,ils ls] [] (.ret (bool true)) []) (ex:AEx) (s':St) (h:((((CE.gn (tcC t k))=true)→((((CE.gn (tcC x k) == true)=true)→((((CE.dv (tcC t k) == CE.dv (tcC x k) && (CE.sq (tcC t k) == CE.sq (tcC x k) && (CE.at' (tcC t k) == CE.at' (tcC x k) && (CE.ad (tcC t k) == CE.ad (tcC x k) && (CE.as' (tcC t k) == CE.as' (tcC x k) && (CE.aa (tcC t k) == CE.aa (tcC x k) && (CE.tm (tcC t k) == CE.tm (tcC x k) && (CE.vl (tcC t k) == CE.vl (tcC x k) && CE.gn (tcC t k) == CE.gn (tcC t k)))))))))=true)→RunL P G none 0 (loopAt P 7 0) (St.mk (slots 161 [(2,int n),(3,AV.ptr 0 0),(4,AV.ptr 1 0),(7,AV.ptr 2 0),(11,int (↑met:Int)),(12,int (↑(k+1):Int))]) [AObj.box [AV.sl 9 false (Sq.encs (TE.cells t)),AV.sl 11 false (encs (TE.marks t))],AObj.box [int a,int b,int c],AObj.box [AV.sl 9 false (Sq.encs (TE.cells x)),AV.sl 11 false (encs (TE.marks x))],AObj.box [AV.sl 9 false (Sq.encs (TE.cells x)),AV.sl 11 false (encs (TE.marks x))]] []) ex s')∧(((CE.dv (tcC t k) == CE.dv (tcC x k) && (CE.sq (tcC t k) == CE.sq (tcC x k) && (CE.at' (tcC t k) == CE.at' (tcC x k) && (CE.ad (tcC t k) == CE.ad (tcC x k) && (CE.as' (tcC t k) == CE.as' (tcC x k) && (CE.aa (tcC t k) == CE.aa (tcC x k) && (CE.tm (tcC t k) == CE.tm (tcC x k) && (CE.vl (tcC t k) == CE.vl (tcC x k) && CE.gn (tcC t k) == CE.gn (tcC t k)))))))))=false)→(AEx.ret=ex)∧(St.mk (slots 161 []) [AObj.box [AV.sl 9 false (Sq.encs (TE.cells t)),AV.sl 11 false (encs (TE.marks t))],AObj.box [int a,int b,int c],AObj.box [AV.sl 9 false (Sq.encs (TE.cells x)),AV.sl 11 false (encs (TE.marks x))],AObj.box [AV.sl 9 false (Sq.encs (TE.cells x)),AV.sl 11 false (encs (TE.marks x))]] []=s'))))∧(((CE.gn (tcC x k) == true)=false)→(AEx.ret=ex)∧(St.mk (slots 161 []) [AObj.box [AV.sl 9 false (Sq.encs (TE.cells t)),AV.sl 11 false (encs (TE.marks t))],AObj.box [int a,int b,int c],AObj.box [AV.sl 9 false (Sq.encs (TE.cells x)),AV.sl 11 false (encs (TE.marks x))],AObj.box [AV.sl 9 false (Sq.encs (TE.cells x)),AV.sl 11 false (encs (TE.marks x))]] []=s'))))∧(((CE.gn (tcC t k))=false)→((((CE.gn (tcC x k) == false)=true)→((((CE.dv (tcC t k) == CE.dv (tcC x k) && (CE.sq (tcC t k) == CE.sq (tcC x k) && (CE.at' (tcC t k) == CE.at' (tcC x k) && (CE.ad (tcC t k) == CE.ad (tcC x k) && (CE.as' (tcC t k) == CE.as' (tcC x k) && (CE.aa (tcC t k) == CE.aa (tcC x k) && (CE.tm (tcC t k) == CE.tm (tcC x k) && (CE.vl (tcC t k) == CE.vl (tcC x k) && CE.gn (tcC t k) == CE.gn (tcC t k)))))))))=true)→RunL P G none 0 (loopAt P 7 0) (St.mk (slots 161 [(2,int n),(3,AV.ptr 0 0),(4,AV.ptr 1 0),(7,AV.ptr 2 0),(11,int (↑met:Int)),(12,int (↑(k+1):Int))]) [AObj.box [AV.sl 9 false (Sq.encs (TE.cells t)),AV.sl 11 false (encs (TE.marks t))],AObj.box [int a,int b,int c],AObj.box [AV.sl 9 false (Sq.encs (TE.cells x)),AV.sl 11 false (encs (TE.marks x))],AObj.box [AV.sl 9 false (Sq.encs (TE.cells x)),AV.sl 11 false (encs (TE.marks x))]] []) ex s')∧(((CE.dv (tcC t k) == CE.dv (tcC x k) && (CE.sq (tcC t k) == CE.sq (tcC x k) && (CE.at' (tcC t k) == CE.at' (tcC x k) && (CE.ad (tcC t k) == CE.ad (tcC x k) && (CE.as' (tcC t k) == CE.as' (tcC x k) && (CE.aa (tcC t k) == CE.aa (tcC x k) && (CE.tm (tcC t k) == CE.tm (tcC x k) && (CE.vl (tcC t k) == CE.vl (tcC x k) && CE.gn (tcC t k) == CE.gn (tcC t k)))))))))=false)→(AEx.ret=ex)∧(St.mk (slots 161 []) [AObj.box [AV.sl 9 false (Sq.encs (TE.cells t)),AV.sl 11 false (encs (TE.marks t))],AObj.box [int a,int b,int c],AObj.box [AV.sl 9 false (Sq.encs (TE.cells x)),AV.sl 11 false (encs (TE.marks x))],AObj.box [AV.sl 9 false (Sq.encs (TE.cells x)),AV.sl 11 false (encs (TE.marks x))]] []=s'))))∧(((CE.gn (tcC x k) == false)=false)→(AEx.ret=ex)∧(St.mk (slots 161 []) [AObj.box [AV.sl 9 false (Sq.encs (TE.cells t)),AV.sl 11 false (encs (TE.marks t))],AObj.box [int a,int b,int c],AObj.box [AV.sl 9 false (Sq.encs (TE.cells x)),AV.sl 11 false (encs (TE.marks x))],AObj.box [AV.sl 9 false (Sq.encs (TE.cells x)),AV.sl 11 false (encs (TE.marks x))]] []=s')))))):RunL P G none 0 (loopAt P 7 0) (tuS t x a b c n met k) ex s':=by
 have hz0:Am.Sub (int (↑(List.length (Sq.encs (TE.cells t))):Int)) (int (↑(List.length (TE.cells t)):Int)):=(Sub.of_eq (by simp only [Go.Sq.encs_length]))
 have hz1:decide ((↑k:Int)<(↑(List.length (TE.cells t)):Int))=true:=(decide_eq_true (by omega))
 have hz2:=(@Go.Tx.reg3_tc (t) (x) (a) (b) (c) (n) (met) (k) (by omega) (by omega))
 have hz3:(CE.dv (tcC t k) == a)=true:=(decide_eq_true (by omega))
 have hz4:(CE.sq (tcC t k) == b)=true:=(decide_eq_true (by omega))
 have hz5:decide (CE.at' (tcC t k)≥c)=false:=(decide_eq_false (by omega))
 have hz7:=(@hS )
 have hz8:=(@hT )
 have hz10:=(@hE )
 rcases Bool.eq_false_or_eq_true ((CE.gn (tcC t k))) with c5 | c5
 · have h:=h.1 c5
   rcases Bool.eq_false_or_eq_true ((CE.gn (tcC x k) == true)) with c6 | c6
   · have h:=h.1 c6
     have hz6:(!CE.gn (tcC x k) == true)=false:=(congrArg Bool.not (c6))
     rcases Bool.eq_false_or_eq_true ((CE.dv (tcC t k) == CE.dv (tcC x k) && (CE.sq (tcC t k) == CE.sq (tcC x k) && (CE.at' (tcC t k) == CE.at' (tcC x k) && (CE.ad (tcC t k) == CE.ad (tcC x k) && (CE.as' (tcC t k) == CE.as' (tcC x k) && (CE.aa (tcC t k) == CE.aa (tcC x k) && (CE.tm (tcC t k) == CE.tm (tcC x k) && (CE.vl (tcC t k) == CE.vl (tcC x k) && CE.gn (tcC t k) == CE.gn (tcC t k)))))))))) with c7 | c7
     · have h:=h.1 c7
       exact loop_next [kv 69 hz0,kt hz1,kr [66,67,68,69,70] 4 hz2,kt hz3,kt hz4,kf hz5,kf (Eq.refl false),kt c5,kf hz6,kc [] hz7,kc [] hz8,kf (show (!(CE.dv (tcC t k) == CE.dv (tcC x k) && (CE.sq (tcC t k) == CE.sq (tcC x k) && (CE.at' (tcC t k) == CE.at' (tcC x k) && (CE.ad (tcC t k) == CE.ad (tcC x k) && (CE.as' (tcC t k) == CE.as' (tcC x k) && (CE.aa (tcC t k) == CE.aa (tcC x k) && (CE.tm (tcC t k) == CE.tm (tcC x k) && (CE.vl (tcC t k) == CE.vl (tcC x k) && CE.gn (tcC t k) == CE.gn (tcC t k))))))))))=false from (congrArg Bool.not (c7))),kf (Eq.refl false),kf (Eq.refl false),kc [] hz10,kf (Eq.refl false),kv 72 (show Am.Sub (int (IntKind.wrap IntKind.i64 ((↑k:Int)+1))) (int (↑(k+1):Int)) from (Sub.of_wrap (by omega) (by omega) (by omega)))] (others 161 [2,3,4,7,11,12]) 4 h (by kernel_rfl)
     · have h:=h.2 c7
       obtain ⟨eX,eS⟩:=h
       exact RunL.to ((show RunL P G none 0 (loopAt P 7 0) (tuS t x a b c n met k) AEx.ret (St.mk (slots 161 []) [AObj.box [AV.sl 9 false (Sq.encs (TE.cells t)),AV.sl 11 false (encs (TE.marks t))],AObj.box [int a,int b,int c],AObj.box [AV.sl 9 false (Sq.encs (TE.cells x)),AV.sl 11 false (encs (TE.marks x))],AObj.box [AV.sl 9 false (Sq.encs (TE.cells x)),AV.sl 11 false (encs (TE.marks x))]] []) from loop_exit [kv 69 hz0,kt hz1,kr [66,67,68,69,70] 4 hz2,kt hz3,kt hz4,kf hz5,kf (Eq.refl false),kt c5,kf hz6,kc [] hz7,kc [] hz8,kt (show (!(CE.dv (tcC t k) == CE.dv (tcC x k) && (CE.sq (tcC t k) == CE.sq (tcC x k) && (CE.at' (tcC t k) == CE.at' (tcC x k) && (CE.ad (tcC t k) == CE.ad (tcC x k) && (CE.as' (tcC t k) == CE.as' (tcC x k) && (CE.aa (tcC t k) == CE.aa (tcC x k) && (CE.tm (tcC t k) == CE.tm (tcC x k) && (CE.vl (tcC t k) == CE.vl (tcC x k) && CE.gn (tcC t k) == CE.gn (tcC t k))))))))))=true from (congrArg Bool.not (c7))),kt (Eq.refl true),kt (Eq.refl true),kt (Eq.refl true)] (others 161 []) 4 (by kernel_rfl))) eX (SubS.of_eq eS)
   · have h:=h.2 c6
     obtain ⟨eX,eS⟩:=h
     exact RunL.to ((show RunL P G none 0 (loopAt P 7 0) (tuS t x a b c n met k) AEx.ret (St.mk (slots 161 []) [AObj.box [AV.sl 9 false (Sq.encs (TE.cells t)),AV.sl 11 false (encs (TE.marks t))],AObj.box [int a,int b,int c],AObj.box [AV.sl 9 false (Sq.encs (TE.cells x)),AV.sl 11 false (encs (TE.marks x))],AObj.box [AV.sl 9 false (Sq.encs (TE.cells x)),AV.sl 11 false (encs (TE.marks x))]] []) from loop_exit [kv 69 hz0,kt hz1,kr [66,67,68,69,70] 4 hz2,kt hz3,kt hz4,kf hz5,kf (Eq.refl false),kt c5,kt (show (!CE.gn (tcC x k) == true)=true from (congrArg Bool.not (c6)))] (others 161 []) 4 (by kernel_rfl))) eX (SubS.of_eq eS)
 · have h:=h.2 c5
   rcases Bool.eq_false_or_eq_true ((CE.gn (tcC x k) == false)) with c8 | c8
   · have h:=h.1 c8
     have hz14:(!CE.gn (tcC x k) == false)=false:=(congrArg Bool.not (c8))
     rcases Bool.eq_false_or_eq_true ((CE.dv (tcC t k) == CE.dv (tcC x k) && (CE.sq (tcC t k) == CE.sq (tcC x k) && (CE.at' (tcC t k) == CE.at' (tcC x k) && (CE.ad (tcC t k) == CE.ad (tcC x k) && (CE.as' (tcC t k) == CE.as' (tcC x k) && (CE.aa (tcC t k) == CE.aa (tcC x k) && (CE.tm (tcC t k) == CE.tm (tcC x k) && (CE.vl (tcC t k) == CE.vl (tcC x k) && CE.gn (tcC t k) == CE.gn (tcC t k)))))))))) with c9 | c9
     · have h:=h.1 c9
       exact loop_next [kv 69 hz0,kt hz1,kr [66,67,68,69,70] 4 hz2,kt hz3,kt hz4,kf hz5,kf (Eq.refl false),kf c5,kf hz14,kc [] hz7,kc [] hz8,kf (show (!(CE.dv (tcC t k) == CE.dv (tcC x k) && (CE.sq (tcC t k) == CE.sq (tcC x k) && (CE.at' (tcC t k) == CE.at' (tcC x k) && (CE.ad (tcC t k) == CE.ad (tcC x k) && (CE.as' (tcC t k) == CE.as' (tcC x k) && (CE.aa (tcC t k) == CE.aa (tcC x k) && (CE.tm (tcC t k) == CE.tm (tcC x k) && (CE.vl (tcC t k) == CE.vl (tcC x k) && CE.gn (tcC t k) == CE.gn (tcC t k))))))))))=false from (congrArg Bool.not (c9))),kf (Eq.refl false),kf (Eq.refl false),kc [] hz10,kf (Eq.refl false),kv 72 (show Am.Sub (int (IntKind.wrap IntKind.i64 ((↑k:Int)+1))) (int (↑(k+1):Int)) from (Sub.of_wrap (by omega) (by omega) (by omega)))] (others 161 [2,3,4,7,11,12]) 4 h (by kernel_rfl)
     · have h:=h.2 c9
       obtain ⟨eX,eS⟩:=h
       exact RunL.to ((show RunL P G none 0 (loopAt P 7 0) (tuS t x a b c n met k) AEx.ret (St.mk (slots 161 []) [AObj.box [AV.sl 9 false (Sq.encs (TE.cells t)),AV.sl 11 false (encs (TE.marks t))],AObj.box [int a,int b,int c],AObj.box [AV.sl 9 false (Sq.encs (TE.cells x)),AV.sl 11 false (encs (TE.marks x))],AObj.box [AV.sl 9 false (Sq.encs (TE.cells x)),AV.sl 11 false (encs (TE.marks x))]] []) from loop_exit [kv 69 hz0,kt hz1,kr [66,67,68,69,70] 4 hz2,kt hz3,kt hz4,kf hz5,kf (Eq.refl false),kf c5,kf hz14,kc [] hz7,kc [] hz8,kt (show (!(CE.dv (tcC t k) == CE.dv (tcC x k) && (CE.sq (tcC t k) == CE.sq (tcC x k) && (CE.at' (tcC t k) == CE.at' (tcC x k) && (CE.ad (tcC t k) == CE.ad (tcC x k) && (CE.as' (tcC t k) == CE.as' (tcC x k) && (CE.aa (tcC t k) == CE.aa (tcC x k) && (CE.tm (tcC t k) == CE.tm (tcC x k) && (CE.vl (tcC t k) == CE.vl (tcC x k) && CE.gn (tcC t k) == CE.gn (tcC t k))))))))))=true from (congrArg Bool.not (c9))),kt (Eq.refl true),kt (Eq.refl true),kt (Eq.refl true)] (others 161 []) 4 (by kernel_rfl))) eX (SubS.of_eq eS)
   · have h:=h.2 c8
     obtain ⟨eX,eS⟩:=h
     exact RunL.to ((show RunL P G none 0 (loopAt P 7 0) (tuS t x a b c n met k) AEx.ret (St.mk (slots 161 []) [AObj.box [AV.sl 9 false (Sq.encs (TE.cells t)),AV.sl 11 false (encs (TE.marks t))],AObj.box [int a,int b,int c],AObj.box [AV.sl 9 false (Sq.encs (TE.cells x)),AV.sl 11 false (encs (TE.marks x))],AObj.box [AV.sl 9 false (Sq.encs (TE.cells x)),AV.sl 11 false (encs (TE.marks x))]] []) from loop_exit [kv 69 hz0,kt hz1,kr [66,67,68,69,70] 4 hz2,kt hz3,kt hz4,kf hz5,kf (Eq.refl false),kf c5,kt (show (!CE.gn (tcC x k) == false)=true from (congrArg Bool.not (c8)))] (others 161 []) 4 (by kernel_rfl))) eX (SubS.of_eq eS)
end Go.Tx


namespace Go.Tx
open Go Go.Am Go.Proofs Go.Seat
open Go.Sq (CE cel ces ida idv pid fX fiO OkRs OkR chkE)
theorem tu_n4 (t x:TE) (a b c n:Int) (met k:Nat) (ls:List Int) (hl:t.cells.length≤40) (hm:met≤40) (hk:(k:Int)<(t.cells.length:Int)) (hk1:k<t.cells.length) (hk2:k<x.cells.length) (r1:0≤(tcC t k).at') (r2:(tcC t k).at'≤63) (r3:0≤c) (r4:c≤63) (e1:(tcC t k).dv=(tcC x k).dv) (e2:(tcC t k).sq=(tcC x k).sq) (e3:(tcC t k).at'=(tcC x k).at') (e4:(tcC t k).ad=(tcC x k).ad) (e5:(tcC t k).as'=(tcC x k).as') (e6:(tcC t k).aa=(tcC x k).aa) (e7:(tcC t k).tm=(tcC x k).tm) (e8:(ByteArray.toList (tcC t k).vl == ByteArray.toList (tcC x k).vl)=true) (hg:(tcC x k).gn=(tcC t k).gn) (h1:(tcC t k).dv=a) (h2:(tcC t k).sq=b) (h3:(tcC t k).at'≥c) (h4:¬ (tcC t k).at' - c<n) (hS:CallC P G 13 [txt t,int k] [] (.ret (.tup [ils ls,int 0])) []) (hT:CallC P G 13 [txt x,int k] [] (.ret (.tup [ils ls,int 0])) []) (hE:CallC P G 21 [ils ls,ils ls] [] (.ret (bool true)) []) (ex:AEx) (s':St) (h:((((CE.gn (tcC t k))=true)→((((CE.gn (tcC x k) == true)=true)→((((CE.dv (tcC t k) == CE.dv (tcC x k) && (CE.sq (tcC t k) == CE.sq (tcC x k) && (CE.at' (tcC t k) == CE.at' (tcC x k) && (CE.ad (tcC t k) == CE.ad (tcC x k) && (CE.as' (tcC t k) == CE.as' (tcC x k) && (CE.aa (tcC t k) == CE.aa (tcC x k) && (CE.tm (tcC t k) == CE.tm (tcC x k) && (CE.vl (tcC t k) == CE.vl (tcC x k) && CE.gn (tcC t k) == CE.gn (tcC t k)))))))))=true)→RunL P G none 0 (loopAt P 7 0) (St.mk (slots 161 [(2,int n),(3,AV.ptr 0 0),(4,AV.ptr 1 0),(7,AV.ptr 2 0),(11,int (↑met:Int)),(12,int (↑(k+1):Int))]) [AObj.box [AV.sl 9 false (Sq.encs (TE.cells t)),AV.sl 11 false (encs (TE.marks t))],AObj.box [int a,int b,int c],AObj.box [AV.sl 9 false (Sq.encs (TE.cells x)),AV.sl 11 false (encs (TE.marks x))],AObj.box [AV.sl 9 false (Sq.encs (TE.cells x)),AV.sl 11 false (encs (TE.marks x))]] []) ex s')∧(((CE.dv (tcC t k) == CE.dv (tcC x k) && (CE.sq (tcC t k) == CE.sq (tcC x k) && (CE.at' (tcC t k) == CE.at' (tcC x k) && (CE.ad (tcC t k) == CE.ad (tcC x k) && (CE.as' (tcC t k) == CE.as' (tcC x k) && (CE.aa (tcC t k) == CE.aa (tcC x k) && (CE.tm (tcC t k) == CE.tm (tcC x k) && (CE.vl (tcC t k) == CE.vl (tcC x k) && CE.gn (tcC t k) == CE.gn (tcC t k)))))))))=false)→(AEx.ret=ex)∧(St.mk (slots 161 []) [AObj.box [AV.sl 9 false (Sq.encs (TE.cells t)),AV.sl 11 false (encs (TE.marks t))],AObj.box [int a,int b,int c],AObj.box [AV.sl 9 false (Sq.encs (TE.cells x)),AV.sl 11 false (encs (TE.marks x))],AObj.box [AV.sl 9 false (Sq.encs (TE.cells x)),AV.sl 11 false (encs (TE.marks x))]] []=s'))))∧(((CE.gn (tcC x k) == true)=false)→(AEx.ret=ex)∧(St.mk (slots 161 []) [AObj.box [AV.sl 9 false (Sq.encs (TE.cells t)),AV.sl 11 false (encs (TE.marks t))],AObj.box [int a,int b,int c],AObj.box [AV.sl 9 false (Sq.encs (TE.cells x)),AV.sl 11 false (encs (TE.marks x))],AObj.box [AV.sl 9 false (Sq.encs (TE.cells x)),AV.sl 11 false (encs (TE.marks x))]] []=s'))))∧(((CE.gn (tcC t k))=false)→((((CE.gn (tcC x k) == decide (CE.at' (tcC t k) - c<n))=true)→((((CE.dv (tcC t k) == CE.dv (tcC x k) && (CE.sq (tcC t k) == CE.sq (tcC x k) && (CE.at' (tcC t k) == CE.at' (tcC x k) && (CE.ad (tcC t k) == CE.ad (tcC x k) && (CE.as' (tcC t k) == CE.as' (tcC x k) && (CE.aa (tcC t k) == CE.aa (tcC x k) && (CE.tm (tcC t k) == CE.tm (tcC x k) && (CE.vl (tcC t k) == CE.vl (tcC x k) && CE.gn (tcC t k) == CE.gn (tcC t k)))))))))=true)→RunL P G none 0 (loopAt P 7 0) (St.mk (slots 161 [(2,int n),(3,AV.ptr 0 0),(4,AV.ptr 1 0),(7,AV.ptr 2 0),(11,int (↑met:Int)),(12,int (↑(k+1):Int))]) [AObj.box [AV.sl 9 false (Sq.encs (TE.cells t)),AV.sl 11 false (encs (TE.marks t))],AObj.box [int a,int b,int c],AObj.box [AV.sl 9 false (Sq.encs (TE.cells x)),AV.sl 11 false (encs (TE.marks x))],AObj.box [AV.sl 9 false (Sq.encs (TE.cells x)),AV.sl 11 false (encs (TE.marks x))]] []) ex s')∧(((CE.dv (tcC t k) == CE.dv (tcC x k) && (CE.sq (tcC t k) == CE.sq (tcC x k) && (CE.at' (tcC t k) == CE.at' (tcC x k) && (CE.ad (tcC t k) == CE.ad (tcC x k) && (CE.as' (tcC t k) == CE.as' (tcC x k) && (CE.aa (tcC t k) == CE.aa (tcC x k) && (CE.tm (tcC t k) == CE.tm (tcC x k) && (CE.vl (tcC t k) == CE.vl (tcC x k) && CE.gn (tcC t k) == CE.gn (tcC t k)))))))))=false)→(AEx.ret=ex)∧(St.mk (slots 161 []) [AObj.box [AV.sl 9 false (Sq.encs (TE.cells t)),AV.sl 11 false (encs (TE.marks t))],AObj.box [int a,int b,int c],AObj.box [AV.sl 9 false (Sq.encs (TE.cells x)),AV.sl 11 false (encs (TE.marks x))],AObj.box [AV.sl 9 false (Sq.encs (TE.cells x)),AV.sl 11 false (encs (TE.marks x))]] []=s'))))∧(((CE.gn (tcC x k) == decide (CE.at' (tcC t k) - c<n))=false)→(AEx.ret=ex)∧(St.mk (slots 161 []) [AObj.box [AV.sl 9 false (Sq.encs (TE.cells t)),AV.sl 11 false (encs (TE.marks t))],AObj.box [int a,int b,int c],AObj.box [AV.sl 9 false (Sq.encs (TE.cells x)),AV.sl 11 false (encs (TE.marks x))],AObj.box [AV.sl 9 false (Sq.encs (TE.cells x)),AV.sl 11 false (encs (TE.marks x))]] []=s')))))):RunL P G none 0 (loopAt P 7 0) (tuS t x a b c n met k) ex s':=by
 have hz0:Am.Sub (int (↑(List.length (Sq.encs (TE.cells t))):Int)) (int (↑(List.length (TE.cells t)):Int)):=(Sub.of_eq (by simp only [Go.Sq.encs_length]))
 have hz1:decide ((↑k:Int)<(↑(List.length (TE.cells t)):Int))=true:=(decide_eq_true (by omega))
 have hz2:=(@Go.Tx.reg3_tc (t) (x) (a) (b) (c) (n) (met) (k) (by omega) (by omega))
 have hz3:(CE.dv (tcC t k) == a)=true:=(decide_eq_true (by omega))
 have hz4:(CE.sq (tcC t k) == b)=true:=(decide_eq_true (by omega))
 have hz5:decide (CE.at' (tcC t k)≥c)=true:=(decide_eq_true (by omega))
 have hz6:Am.Sub (int (IntKind.wrap IntKind.i64 (CE.at' (tcC t k) - c))) (int (CE.at' (tcC t k) - c)):=(Sub.of_wrap (by omega) (by omega) rfl)
 have hz7:decide (CE.at' (tcC t k) - c<n)=false:=(decide_eq_false (by omega))
 have hz9:=(@hS )
 have hz10:=(@hT )
 have hz12:=(@hE )
 rcases Bool.eq_false_or_eq_true ((CE.gn (tcC t k))) with c6 | c6
 · have h:=h.1 c6
   rcases Bool.eq_false_or_eq_true ((CE.gn (tcC x k) == true)) with c7 | c7
   · have h:=h.1 c7
     have hz8:(!CE.gn (tcC x k) == true)=false:=(congrArg Bool.not (c7))
     rcases Bool.eq_false_or_eq_true ((CE.dv (tcC t k) == CE.dv (tcC x k) && (CE.sq (tcC t k) == CE.sq (tcC x k) && (CE.at' (tcC t k) == CE.at' (tcC x k) && (CE.ad (tcC t k) == CE.ad (tcC x k) && (CE.as' (tcC t k) == CE.as' (tcC x k) && (CE.aa (tcC t k) == CE.aa (tcC x k) && (CE.tm (tcC t k) == CE.tm (tcC x k) && (CE.vl (tcC t k) == CE.vl (tcC x k) && CE.gn (tcC t k) == CE.gn (tcC t k)))))))))) with c8 | c8
     · have h:=h.1 c8
       exact loop_next [kv 69 hz0,kt hz1,kr [66,67,68,69,70] 4 hz2,kt hz3,kt hz4,kt hz5,kv 111 hz6,kf hz7,kt c6,kf hz8,kc [] hz9,kc [] hz10,kf (show (!(CE.dv (tcC t k) == CE.dv (tcC x k) && (CE.sq (tcC t k) == CE.sq (tcC x k) && (CE.at' (tcC t k) == CE.at' (tcC x k) && (CE.ad (tcC t k) == CE.ad (tcC x k) && (CE.as' (tcC t k) == CE.as' (tcC x k) && (CE.aa (tcC t k) == CE.aa (tcC x k) && (CE.tm (tcC t k) == CE.tm (tcC x k) && (CE.vl (tcC t k) == CE.vl (tcC x k) && CE.gn (tcC t k) == CE.gn (tcC t k))))))))))=false from (congrArg Bool.not (c8))),kf (Eq.refl false),kf (Eq.refl false),kc [] hz12,kf (Eq.refl false),kv 72 (show Am.Sub (int (IntKind.wrap IntKind.i64 ((↑k:Int)+1))) (int (↑(k+1):Int)) from (Sub.of_wrap (by omega) (by omega) (by omega)))] (others 161 [2,3,4,7,11,12]) 4 h (by kernel_rfl)
     · have h:=h.2 c8
       obtain ⟨eX,eS⟩:=h
       exact RunL.to ((show RunL P G none 0 (loopAt P 7 0) (tuS t x a b c n met k) AEx.ret (St.mk (slots 161 []) [AObj.box [AV.sl 9 false (Sq.encs (TE.cells t)),AV.sl 11 false (encs (TE.marks t))],AObj.box [int a,int b,int c],AObj.box [AV.sl 9 false (Sq.encs (TE.cells x)),AV.sl 11 false (encs (TE.marks x))],AObj.box [AV.sl 9 false (Sq.encs (TE.cells x)),AV.sl 11 false (encs (TE.marks x))]] []) from loop_exit [kv 69 hz0,kt hz1,kr [66,67,68,69,70] 4 hz2,kt hz3,kt hz4,kt hz5,kv 111 hz6,kf hz7,kt c6,kf hz8,kc [] hz9,kc [] hz10,kt (show (!(CE.dv (tcC t k) == CE.dv (tcC x k) && (CE.sq (tcC t k) == CE.sq (tcC x k) && (CE.at' (tcC t k) == CE.at' (tcC x k) && (CE.ad (tcC t k) == CE.ad (tcC x k) && (CE.as' (tcC t k) == CE.as' (tcC x k) && (CE.aa (tcC t k) == CE.aa (tcC x k) && (CE.tm (tcC t k) == CE.tm (tcC x k) && (CE.vl (tcC t k) == CE.vl (tcC x k) && CE.gn (tcC t k) == CE.gn (tcC t k))))))))))=true from (congrArg Bool.not (c8))),kt (Eq.refl true),kt (Eq.refl true),kt (Eq.refl true)] (others 161 []) 4 (by kernel_rfl))) eX (SubS.of_eq eS)
   · have h:=h.2 c7
     obtain ⟨eX,eS⟩:=h
     exact RunL.to ((show RunL P G none 0 (loopAt P 7 0) (tuS t x a b c n met k) AEx.ret (St.mk (slots 161 []) [AObj.box [AV.sl 9 false (Sq.encs (TE.cells t)),AV.sl 11 false (encs (TE.marks t))],AObj.box [int a,int b,int c],AObj.box [AV.sl 9 false (Sq.encs (TE.cells x)),AV.sl 11 false (encs (TE.marks x))],AObj.box [AV.sl 9 false (Sq.encs (TE.cells x)),AV.sl 11 false (encs (TE.marks x))]] []) from loop_exit [kv 69 hz0,kt hz1,kr [66,67,68,69,70] 4 hz2,kt hz3,kt hz4,kt hz5,kv 111 hz6,kf hz7,kt c6,kt (show (!CE.gn (tcC x k) == true)=true from (congrArg Bool.not (c7)))] (others 161 []) 4 (by kernel_rfl))) eX (SubS.of_eq eS)
 · have h:=h.2 c6
   rcases Bool.eq_false_or_eq_true ((CE.gn (tcC x k) == decide (CE.at' (tcC t k) - c<n))) with c9 | c9
   · have h:=h.1 c9
     have hz16:(!CE.gn (tcC x k) == decide (CE.at' (tcC t k) - c<n))=false:=(congrArg Bool.not (c9))
     rcases Bool.eq_false_or_eq_true ((CE.dv (tcC t k) == CE.dv (tcC x k) && (CE.sq (tcC t k) == CE.sq (tcC x k) && (CE.at' (tcC t k) == CE.at' (tcC x k) && (CE.ad (tcC t k) == CE.ad (tcC x k) && (CE.as' (tcC t k) == CE.as' (tcC x k) && (CE.aa (tcC t k) == CE.aa (tcC x k) && (CE.tm (tcC t k) == CE.tm (tcC x k) && (CE.vl (tcC t k) == CE.vl (tcC x k) && CE.gn (tcC t k) == CE.gn (tcC t k)))))))))) with c10 | c10
     · have h:=h.1 c10
       exact loop_next [kv 69 hz0,kt hz1,kr [66,67,68,69,70] 4 hz2,kt hz3,kt hz4,kt hz5,kv 111 hz6,kf hz7,kf c6,kf hz16,kc [] hz9,kc [] hz10,kf (show (!(CE.dv (tcC t k) == CE.dv (tcC x k) && (CE.sq (tcC t k) == CE.sq (tcC x k) && (CE.at' (tcC t k) == CE.at' (tcC x k) && (CE.ad (tcC t k) == CE.ad (tcC x k) && (CE.as' (tcC t k) == CE.as' (tcC x k) && (CE.aa (tcC t k) == CE.aa (tcC x k) && (CE.tm (tcC t k) == CE.tm (tcC x k) && (CE.vl (tcC t k) == CE.vl (tcC x k) && CE.gn (tcC t k) == CE.gn (tcC t k))))))))))=false from (congrArg Bool.not (c10))),kf (Eq.refl false),kf (Eq.refl false),kc [] hz12,kf (Eq.refl false),kv 72 (show Am.Sub (int (IntKind.wrap IntKind.i64 ((↑k:Int)+1))) (int (↑(k+1):Int)) from (Sub.of_wrap (by omega) (by omega) (by omega)))] (others 161 [2,3,4,7,11,12]) 4 h (by kernel_rfl)
     · have h:=h.2 c10
       obtain ⟨eX,eS⟩:=h
       exact RunL.to ((show RunL P G none 0 (loopAt P 7 0) (tuS t x a b c n met k) AEx.ret (St.mk (slots 161 []) [AObj.box [AV.sl 9 false (Sq.encs (TE.cells t)),AV.sl 11 false (encs (TE.marks t))],AObj.box [int a,int b,int c],AObj.box [AV.sl 9 false (Sq.encs (TE.cells x)),AV.sl 11 false (encs (TE.marks x))],AObj.box [AV.sl 9 false (Sq.encs (TE.cells x)),AV.sl 11 false (encs (TE.marks x))]] []) from loop_exit [kv 69 hz0,kt hz1,kr [66,67,68,69,70] 4 hz2,kt hz3,kt hz4,kt hz5,kv 111 hz6,kf hz7,kf c6,kf hz16,kc [] hz9,kc [] hz10,kt (show (!(CE.dv (tcC t k) == CE.dv (tcC x k) && (CE.sq (tcC t k) == CE.sq (tcC x k) && (CE.at' (tcC t k) == CE.at' (tcC x k) && (CE.ad (tcC t k) == CE.ad (tcC x k) && (CE.as' (tcC t k) == CE.as' (tcC x k) && (CE.aa (tcC t k) == CE.aa (tcC x k) && (CE.tm (tcC t k) == CE.tm (tcC x k) && (CE.vl (tcC t k) == CE.vl (tcC x k) && CE.gn (tcC t k) == CE.gn (tcC t k))))))))))=true from (congrArg Bool.not (c10))),kt (Eq.refl true),kt (Eq.refl true),kt (Eq.refl true)] (others 161 []) 4 (by kernel_rfl))) eX (SubS.of_eq eS)
   · have h:=h.2 c9
     obtain ⟨eX,eS⟩:=h
     exact RunL.to ((show RunL P G none 0 (loopAt P 7 0) (tuS t x a b c n met k) AEx.ret (St.mk (slots 161 []) [AObj.box [AV.sl 9 false (Sq.encs (TE.cells t)),AV.sl 11 false (encs (TE.marks t))],AObj.box [int a,int b,int c],AObj.box [AV.sl 9 false (Sq.encs (TE.cells x)),AV.sl 11 false (encs (TE.marks x))],AObj.box [AV.sl 9 false (Sq.encs (TE.cells x)),AV.sl 11 false (encs (TE.marks x))]] []) from loop_exit [kv 69 hz0,kt hz1,kr [66,67,68,69,70] 4 hz2,kt hz3,kt hz4,kt hz5,kv 111 hz6,kf hz7,kf c6,kt (show (!CE.gn (tcC x k) == decide (CE.at' (tcC t k) - c<n))=true from (congrArg Bool.not (c9)))] (others 161 []) 4 (by kernel_rfl))) eX (SubS.of_eq eS)
end Go.Tx


namespace Go.Tx
open Go Go.Am Go.Proofs Go.Seat
open Go.Sq (CE cel ces ida idv pid fX fiO OkRs OkR chkE)
end Go.Tx


namespace Go.Tx
open Go Go.Am Go.Proofs Go.Seat
open Go.Sq (CE cel ces ida idv pid fX fiO OkRs OkR chkE)
end Go.Tx


namespace Go.Tx
open Go Go.Am Go.Proofs Go.Seat
open Go.Sq (CE cel ces ida idv pid fX fiO OkRs OkR chkE insE insV formsB Ok Ids lvl all clash More ers goneAt)
def tyL (dv sq tm:Int) (s:ByteArray):Nat→Nat→Sq.ID→List CE
 | 0,_,_=>[]
 | n+1,k,i=>tyC dv sq tm k i s::tyL dv sq tm s n (k+1) (dv,sq,(k:Int))
theorem ins_iff {l:List CE} {c:CE} (hg:c.gn=false):insE l c=0↔chkE l=0∧formsB (l++[c])=true:=by
 rcases Sq.ins_cases l c with ⟨h1,h2,h3,_⟩ | ⟨h1,_⟩
 · exact ⟨fun _=>⟨h2,h3⟩,fun _=>h1⟩
 · refine ⟨fun h=>absurd h h1,fun ⟨h2,h3⟩=>?_⟩
   unfold Sq.insE Sq.ordE
   simp [h2,hg,h3]
theorem ins_all {l:List CE} {c:CE} (h:insE l c=0):insV l c=all (l++[c]):=by
 rcases Sq.ins_cases l c with ⟨_,_,_,h4⟩ | ⟨h1,_⟩
 · exact h4
 · exact absurd h h1
theorem lvl_up {l m:List CE} (h:∀ x∈l,x∈m):∀ {n:Nat} {c:CE},lvl l n c→lvl m n c
 | 0,_,k=>k
 | n+1,_,⟨p,hp,e,k⟩=>⟨p,h p hp,e,lvl_up h k⟩
theorem forms_up {l l':List CE} {c:CE} (h:More l c) (h':formsB l'=true) (hs:∀ x∈l,x∈l') (hc:∀ y∈l',y∉l→clash c y=false):formsB (l'++[c])=true:=by
 obtain ⟨o1,o2⟩:=Sq.forms_iff.1 h'
 have hm:=h.okm
 have cl:∀ y∈l',clash c y=false:=fun y hy=>by
  by_cases hyl:y∈l
  · exact (List.pairwise_append.1 hm.apart).2.2 y hyl c (by simp)
  · exact hc y hy hyl
 refine Sq.forms_iff.2 ⟨⟨fun x hx=>?_,?_⟩,fun x hx=>?_⟩
 · rcases List.mem_append.1 hx with hx | hx
   · exact o1.valid x hx
   · exact hm.valid x (List.mem_append_right _ hx)
 · refine List.pairwise_append.2 ⟨o1.apart,List.pairwise_singleton _ _,fun a ha b hb=>?_⟩
   rw [List.mem_singleton.1 hb]
   exact cl a ha
 · rcases List.mem_append.1 hx with hx | hx
   · obtain ⟨n,hn⟩:=o2 x hx
     exact ⟨n,lvl_up (fun y hy=>List.mem_append_left _ hy) hn⟩
   · rw [List.mem_singleton.1 hx]
     rcases h.parent with e | ⟨p,hp,e⟩
     · exact ⟨0,e⟩
     · obtain ⟨n,hn⟩:=o2 p (hs p hp)
       exact ⟨n+1,p,List.mem_append_left _ (hs p hp),e,lvl_up (fun y hy=>List.mem_append_left _ hy) hn⟩
theorem ty_up {dv sq tm:Int} {s:ByteArray}:∀ {n k:Nat} {i:Sq.ID} {l l':List CE},chkE l=0→(tyN dv sq tm s n k i l).2=0→chkE l'=0→(∀ x∈l,x∈l')→(∀ c∈tyL dv sq tm s n k i,∀ y∈l',y∉l→clash c y=false) →
 tyN dv sq tm s n k i l'=(all (l'++tyL dv sq tm s n k i),0)∧formsB (l'++tyL dv sq tm s n k i)=true
 | 0,k,i,l,l',_,_,h',_,_=>by
  obtain ⟨f1,f2⟩:=Sq.chk_iff.1 h'
  refine ⟨?_,by simpa [tyL] using f1⟩
  simp [tyN,tyL,f2]
 | n+1,k,i,l,l',h,ht,h',hs,hc=>by
  rw [tyN] at ht
  split at ht
  · rename_i hne
    exact absurd ht hne
  · rename_i h0
    have h0:insE l (tyC dv sq tm k i s)=0:=by simpa using h0
    obtain ⟨_,f1⟩:=(ins_iff (c:=tyC dv sq tm k i s) rfl).1 h0
    have hM:More l (tyC dv sq tm k i s):=⟨(Sq.chk_iff.1 h).1,f1⟩
    have f2:=forms_up hM (Sq.chk_iff.1 h').1 hs (hc _ (List.mem_cons_self ..))
    have h1:=(ins_iff (l:=l') (c:=tyC dv sq tm k i s) rfl).2 ⟨h',f2⟩
    rw [ins_all h0] at ht
    have mem1:∀ {x},x∈all (l++[tyC dv sq tm k i s])↔x∈l∨x=tyC dv sq tm k i s:=fun {x}=>by rw [(Sq.all_is f1).mem_iff]; simp
    have mem2:∀ {x},x∈all (l'++[tyC dv sq tm k i s])↔x∈l'∨x=tyC dv sq tm k i s:=fun {x}=>by rw [(Sq.all_is f2).mem_iff]; simp
    obtain ⟨a1,a2⟩:=ty_up (l':=all (l'++[tyC dv sq tm k i s])) (Sq.ord_ord f1).2.2 ht (Sq.ord_ord f2).2.2 (fun x hx=>mem2.2 ((mem1.1 hx).imp (hs x) id)) (fun c hcm y hy hn=>by
     rcases mem2.1 hy with hy | hy
     · exact hc c (List.mem_cons_of_mem _ hcm) y hy fun hyl=>hn (mem1.2 (.inl hyl))
     · exact absurd (mem1.2 (.inr hy)) hn)
    have hp:(all (l'++[tyC dv sq tm k i s])++tyL dv sq tm s n (k+1) (dv,sq,(k:Int))).Perm (l'++tyL dv sq tm s (n+1) k i):=by
     have:=(Sq.all_is f2).append_right (tyL dv sq tm s n (k+1) (dv,sq,(k:Int)))
     rw [List.append_assoc] at this
     exact this
    have f3:formsB (l'++tyL dv sq tm s (n+1) k i)=true:=by rw [← Sq.forms_perm hp]; exact a2
    refine ⟨?_,f3⟩
    rw [tyN,if_neg (by simpa using h1),ins_all h1,a1,Sq.all_perm (Sq.forms_iff.1 a2).1 hp]
theorem ty_is {dv sq tm:Int} {s:ByteArray} {n k:Nat} {i:Sq.ID} {l:List CE} (h:chkE l=0) (ht:(tyN dv sq tm s n k i l).2=0):tyN dv sq tm s n k i l=(all (l++tyL dv sq tm s n k i),0)∧formsB (l++tyL dv sq tm s n k i)=true :=
 ty_up h ht h (fun _ hx=>hx) fun _ _ _ hy hn=>absurd hy hn
def cutF (a b c:Int):Nat→Nat→CE→CE
 | 0,_,x=>x
 | n+1,k,x=>cutF a b c n (k+1) (ers (a,b,wr c k) x)
theorem cutF_alike {a b c:Int}:∀ {n k:Nat},Sq.Alike (cutF a b c n k)
 | 0,_=>⟨fun _=>rfl,fun _=>rfl,fun _=>rfl,fun _=>rfl,fun _=>rfl,fun _=>rfl,fun _=>rfl,fun _=>rfl⟩
 | n+1,k=>by
  have h:=Sq.ers_alike (a,b,wr c k)
  have k:=cutF_alike (a:=a) (b:=b) (c:=c) (n:=n) (k:=k+1)
  constructor<;>intro x<;>simp only [cutF]
  · rw [k.dv,h.dv]
  · rw [k.sq,h.sq]
  · rw [k.at',h.at']
  · rw [k.ad,h.ad]
  · rw [k.as',h.as']
  · rw [k.aa,h.aa]
  · rw [k.tm,h.tm]
  · rw [k.vl,h.vl]
theorem cutF_gn {a b c:Int}:∀ {n k:Nat} {x:CE},(cutF a b c n k x).gn=true↔x.gn=true∨∃ j,j<n∧x.id=(a,b,wr c (k+j))
 | 0,k,x=>by simp [cutF]
 | n+1,k,x=>by
  rw [cutF,cutF_gn,(Sq.ers_alike _).id]
  have h1:(ers (a,b,wr c k) x).gn=true↔x.gn=true∨x.id=(a,b,wr c k):=by
   by_cases h:x.id=(a,b,wr c k)
   · rw [Sq.ers_yes h]; simp [h]
   · rw [Sq.ers_no h]; simp [h]
  rw [h1]
  constructor
  · rintro ((h | h) | ⟨j,hj,h⟩)
    · exact .inl h
    · exact .inr ⟨0,by omega,h⟩
    · exact .inr ⟨j+1,by omega,by rw [h,show k+1+j=k+(j+1) by omega]⟩
  · rintro (h | ⟨j,hj,h⟩)
    · exact .inl (.inl h)
    · cases j with
      | zero=>exact .inl (.inr h)
      | succ j=>exact .inr ⟨j,by omega,by rw [h,show k+1+j=k+(j+1) by omega]⟩
theorem ce_ext {x y:CE} (h1:x.dv=y.dv) (h2:x.sq=y.sq) (h3:x.at'=y.at') (h4:x.ad=y.ad) (h5:x.as'=y.as') (h6:x.aa=y.aa) (h7:x.tm=y.tm) (h8:x.vl=y.vl) (h9:x.gn=y.gn):x=y:=by
 cases x; cases y; simp_all
theorem Alike_ext {g h:CE→CE} (hg:Sq.Alike g) (hh:Sq.Alike h) {x:CE} (e:(g x).gn=(h x).gn):g x=h x :=
 ce_ext ((hg.dv x).trans (hh.dv x).symm) ((hg.sq x).trans (hh.sq x).symm) ((hg.at' x).trans (hh.at' x).symm) ((hg.ad x).trans (hh.ad x).symm) ((hg.as' x).trans (hh.as' x).symm) ((hg.aa x).trans (hh.aa x).symm) ((hg.tm x).trans (hh.tm x).symm) ((hg.vl x).trans (hh.vl x).symm) e
theorem alike_id:Sq.Alike (fun x=>x):=⟨fun _=>rfl,fun _=>rfl,fun _=>rfl,fun _=>rfl,fun _=>rfl,fun _=>rfl,fun _=>rfl,fun _=>rfl⟩
theorem alike_comp {g h:CE→CE} (hg:Sq.Alike g) (hh:Sq.Alike h):Sq.Alike (fun x=>g (h x)) :=
 ⟨fun x=>(hg.dv _).trans (hh.dv x),fun x=>(hg.sq _).trans (hh.sq x),fun x=>(hg.at' _).trans (hh.at' x),fun x=>(hg.ad _).trans (hh.ad x),fun x=>(hg.as' _).trans (hh.as' x),fun x=>(hg.aa _).trans (hh.aa x),fun x=>(hg.tm _).trans (hh.tm x),fun x=>(hg.vl _).trans (hh.vl x)⟩
theorem cutF_no {a b c:Int} {n k:Nat} {x:CE} (h:∀ j,j<n→x.id≠(a,b,wr c (k+j))):cutF a b c n k x=x :=
 Alike_ext cutF_alike alike_id (by
  rw [Bool.eq_iff_iff,cutF_gn]
  exact ⟨fun k=>k.elim id fun ⟨j,hj,e⟩=>absurd e (h j hj),.inl⟩)
def CutOk (a b c:Int) (n k:Nat) (l:List CE):Prop:=∀ j,j<n→∃ x∈l,x.id=(a,b,wr c (k+j))
theorem cut_is {a b c:Int}:∀ {n k:Nat} {l:List CE},Ids l→(CutOk a b c n k l→cutN a b c n k l=some (l.map (cutF a b c n k)))∧∀ {r},cutN a b c n k l=some r→CutOk a b c n k l
 | 0,k,l,_=>⟨fun _=>by simp [cutN,cutF],fun _ j hj=>absurd hj (by omega)⟩
 | n+1,k,l,hl=>by
  have ha:=Sq.ers_alike (a,b,wr c k)
  have hl2:Ids (l.map (ers (a,b,wr c k))):=List.pairwise_map.2 (hl.imp fun {x y} q=>by rw [ha.id,ha.id]; exact q)
  obtain ⟨i1,i2⟩:=cut_is (a:=a) (b:=b) (c:=c) (n:=n) (k:=k+1) hl2
  constructor
  · intro h
    obtain ⟨x,hx,e⟩:=h 0 (by omega)
    obtain ⟨m,hm⟩:=Sq.fX_mem hx e
    have hm:fX (pid a b (wr c k)) l=some m:=hm
    rw [cutN,hm]
    show cutN a b c n (k+1) (goneAt l m)=_
    rw [Sq.goneAt_map hl hm,i1 fun j hj=>?_,List.map_map]
    · rfl
    · obtain ⟨y,hy,e⟩:=h (j+1) (by omega)
      exact ⟨_,List.mem_map.2 ⟨y,hy,rfl⟩,by rw [ha.id,e,show k+1+j=k+(j+1) by omega]⟩
  · intro r h j hj
    rw [cutN] at h
    split at h
    · rename_i m hm
      rw [Sq.goneAt_map hl hm] at h
      cases j with
      | zero =>
       obtain ⟨x,hx,e⟩:=Sq.fX_some hm
       exact ⟨x,List.mem_of_getElem? hx,e⟩
      | succ j =>
       obtain ⟨y,hy,e⟩:=i2 h j (by omega)
       obtain ⟨x,hx,rfl⟩:=List.mem_map.1 hy
       exact ⟨x,hx,by rw [ha.id] at e; rw [e,show k+1+j=k+(j+1) by omega]⟩
    · cases h
def addM (m:MK) (v:List MK):List MK:=v.take (plcM m v)++[m]++v.drop (plcM m v)
theorem addM_perm (m:MK) (v:List MK):(addM m v).Perm (m::v):=by
 unfold addM
 have:(v.take (plcM m v)++[m]++v.drop (plcM m v)).Perm (m::(v.take (plcM m v)++v.drop (plcM m v))):=by
  rw [List.append_assoc]
  exact List.perm_middle
 rw [List.take_append_drop] at this
 exact this
theorem isMk_iff {l:List CE} {m:MK}:isMk l m=true↔(∃ x∈l,x.id=m.frm)∧(∃ x∈l,x.id=m.upto)∧(Vec.isDotB (m.dv,m.sq) && decide (m.tm≥1) && decide (m.tm≤1099511627776) && decide (m.st≥0) && decide (m.st<16))=true:=by
 have key:∀ i j k:Int,(fX (pid i j k) l).isSome=true↔∃ x∈l,x.id=(i,j,k):=fun i j k=>by
  constructor
  · intro h
    obtain ⟨m,hm⟩:=Option.isSome_iff_exists.1 h
    obtain ⟨x,hx,e⟩:=Sq.fX_some hm
    exact ⟨x,List.mem_of_getElem? hx,e⟩
  · rintro ⟨x,hx,e⟩
    obtain ⟨m,hm⟩:=Sq.fX_mem hx e
    rw [hm]; rfl
 unfold isMk MK.frm MK.upto
 rw [← key,← key]
 simp only [Bool.and_eq_true]
 constructor
 · rintro ⟨⟨⟨⟨⟨⟨h1,h2⟩,h3⟩,h4⟩,h5⟩,h6⟩,h7⟩
   exact ⟨h1,h2,⟨⟨⟨h3,h4⟩,h5⟩,h6⟩,h7⟩
 · rintro ⟨h1,h2,⟨⟨⟨h3,h4⟩,h5⟩,h6⟩,h7⟩
   exact ⟨⟨⟨⟨⟨⟨h1,h2⟩,h3⟩,h4⟩,h5⟩,h6⟩,h7⟩
theorem isMk_up {l l':List CE} {m:MK} (h:∀ x∈l,∃ y∈l',y.id=x.id) (hm:isMk l m=true):isMk l' m=true:=by
 obtain ⟨⟨x,hx,e⟩,⟨x',hx',e'⟩,k⟩:=isMk_iff.1 hm
 obtain ⟨y,hy,e2⟩:=h x hx
 obtain ⟨y',hy',e2'⟩:=h x' hx'
 exact isMk_iff.2 ⟨⟨y,hy,e2.trans e⟩,⟨y',hy',e2'.trans e'⟩,k⟩
theorem OkV.up {l l':List CE} {v:List MK} (h:OkV l v) (hs:∀ x∈l,∃ y∈l',y.id=x.id):OkV l' v:=⟨fun m hm=>isMk_up hs (h.isM m hm),h.sorted,h.dots⟩
end Go.Tx


namespace Go.Tx
open Go Go.Am Go.Proofs Go.Seat
open Go.Sq (CE cel ces ida idv pid fX fiO OkRs OkR chkE insE insV formsB Ok Ids lvl all clash More ers goneAt)
def TL (e:ED):List CE:=tyL e.dv e.sq e.tm e.s e.s.size 0 (e.a,e.b,e.c)
def CF (e:ED):CE→CE:=cutF e.a e.b e.c e.n.toNat 0
def TyOk (t:TE) (e:ED):Prop:=(1≤e.s.size∧e.s.size≤64)∧(tyN e.dv e.sq e.tm e.s e.s.size 0 (e.a,e.b,e.c) t.cells).2=0
def CuOk (t:TE) (e:ED):Prop:=(1≤e.n∧e.n≤64)∧CutOk e.a e.b e.c e.n.toNat 0 t.cells
def AdOk (t:TE) (e:ED):Prop:=isMk t.cells e.m=true∧∀ a∈t.marks,a.dot≠e.m.dot
theorem CF_alike (e:ED):Sq.Alike (CF e):=cutF_alike
theorem Val.chk {t:TE} (h:Val t):chkT t=0:=chkT_iff.2 h
theorem Val.ids {t:TE} (h:Val t):Ids t.cells:=(Sq.forms_iff.1 (Sq.chk_iff.1 h.cells).1).1.ids
theorem typ_mk {t:TE} {e:ED} (hV:Val t) (h:TyOk t e):typR t e.dv e.sq e.tm (e.a,e.b,e.c) e.s=(⟨(tyN e.dv e.sq e.tm e.s e.s.size 0 (e.a,e.b,e.c) t.cells).1,t.marks⟩,0):=by
 obtain ⟨⟨h1,h2⟩,h3⟩:=h
 unfold typR
 rw [if_neg (by simpa using hV.chk),if_neg (by omega),if_pos h3]
theorem cut_mk {t:TE} {e:ED} (hV:Val t) (h:CuOk t e):cutR t (e.a,e.b,e.c) e.n=(⟨t.cells.map (CF e),t.marks⟩,0):=by
 obtain ⟨⟨h1,h2⟩,h3⟩:=h
 unfold cutR
 rw [if_neg (by simpa using hV.chk),if_neg (by omega),(cut_is hV.ids).1 h3]
 rfl
theorem add_mk {t:TE} {e:ED} (hV:Val t) (h:AdOk t e):addR t e.m=(⟨t.cells,addM e.m t.marks⟩,0):=by
 obtain ⟨h1,h2⟩:=h
 unfold addR
 rw [if_neg (by simpa using hV.chk),if_neg (by rw [h1]; decide),if_neg]
 · rfl
 · intro hc
   obtain ⟨a,ha,e⟩:=List.any_eq_true.1 hc
   exact h2 a ha (of_decide_eq_true e)
theorem ed_inv {t:TE} {e:ED} (h:(edR t e).2=0):Val t∧(e.kd=0∧TyOk t e∧edR t e=(⟨all (t.cells++TL e),t.marks⟩,0)∨e.kd≠0∧e.kd=1∧CuOk t e∧edR t e=(⟨t.cells.map (CF e),t.marks⟩,0)∨e.kd≠0∧e.kd≠1∧AdOk t e∧edR t e=(⟨t.cells,addM e.m t.marks⟩,0)):=by
 have hv:chkT t=0:=by
  unfold edR at h
  split at h
  · unfold typR at h
    split at h
    · rename_i hc; exact absurd h hc
    · rename_i hc; simpa using hc
  · split at h
    · unfold cutR at h
      split at h
      · rename_i hc; exact absurd h hc
      · rename_i hc; simpa using hc
    · unfold addR at h
      split at h
      · rename_i hc; exact absurd h hc
      · rename_i hc; simpa using hc
 have hV:=chkT_iff.1 hv
 refine ⟨hV,?_⟩
 by_cases h0:e.kd=0
 · have e1:edR t e=typR t e.dv e.sq e.tm (e.a,e.b,e.c) e.s:=by unfold edR; rw [if_pos h0]
   rw [e1] at h ⊢
   have hT:TyOk t e:=by
    unfold typR at h
    rw [if_neg (by simpa using hv)] at h
    split at h
    · cases h
    · rename_i hs
      split at h
      · rename_i ht; exact ⟨by omega,ht⟩
      · rename_i ht; exact absurd h ht
   refine .inl ⟨h0,hT,?_⟩
   rw [typ_mk hV hT,(ty_is hV.cells hT.2).1]
   rfl
 · by_cases h1:e.kd=1
   · have e1:edR t e=cutR t (e.a,e.b,e.c) e.n:=by unfold edR; rw [if_neg h0,if_pos h1]
     rw [e1] at h ⊢
     have hC:CuOk t e:=by
      unfold cutR at h
      rw [if_neg (by simpa using hv)] at h
      split at h
      · cases h
      · rename_i hs
        split at h
        · rename_i hr; exact ⟨by omega,(cut_is hV.ids).2 hr⟩
        · cases h
     exact .inr (.inl ⟨h0,h1,hC,cut_mk hV hC⟩)
   · have e1:edR t e=addR t e.m:=by unfold edR; rw [if_neg h0,if_neg h1]
     rw [e1] at h ⊢
     have hA:AdOk t e:=by
      unfold addR at h
      rw [if_neg (by simpa using hv)] at h
      split at h
      · cases h
      · rename_i hs
        split at h
        · cases h
        · rename_i ha
          refine ⟨by simpa using hs,fun a hm e=>ha (List.any_eq_true.2 ⟨a,hm,decide_eq_true e⟩)⟩
     exact .inr (.inr ⟨h0,h1,hA,add_mk hV hA⟩)
theorem val_map {t:TE} {g:CE→CE} (hg:Sq.Alike g) (hV:Val t):Val ⟨t.cells.map g,t.marks⟩:=by
 refine ⟨hg.chk hV.cells,fun c hc=>?_,hV.marks.up fun x hx=>⟨g x,List.mem_map.2 ⟨x,hx,rfl⟩,hg.id x⟩⟩
 obtain ⟨x,hx,rfl⟩:=List.mem_map.1 hc
 rw [hg.vl]; exact hV.one x hx
theorem CutOk.up {a b c:Int} {n k:Nat} {l l':List CE} (h:CutOk a b c n k l) (hs:∀ x∈l,∃ y∈l',y.id=x.id):CutOk a b c n k l':=fun j hj=>by
 obtain ⟨x,hx,e⟩:=h j hj
 obtain ⟨y,hy,e'⟩:=hs x hx
 exact ⟨y,hy,e'.trans e⟩
end Go.Tx


namespace Go.Tx
open Go Go.Am Go.Proofs Go.Seat
open Go.Sq (CE cel ces ida idv pid fX fiO OkRs OkR chkE)
end Go.Tx


namespace Go.Tx
open Go Go.Am Go.Proofs Go.Seat
abbrev OkA (t:TE):Prop:=OkT t∧SzC t.cells∧∀ x∈t.cells,InR x.tm
end Go.Tx


namespace Go.Tx
open Go Go.Am Go.Proofs Go.Seat
open Go.Sq (CE cel ces ida idv pid fX fiO OkRs OkR chkE insE insV formsB Ok Ids lvl all clash More ers goneAt)
theorem gone_ok {l:List CE} {j:Nat} (h:OkRs l):OkRs (goneAt l j):=fun x hx=>by
 unfold Sq.goneAt at hx
 obtain ⟨i,hi⟩:=List.mem_iff_getElem?.1 hx
 rw [List.getElem?_modify] at hi
 split at hi
 · obtain ⟨y,hy,rfl⟩:=Option.map_eq_some_iff.1 hi
   exact h y (List.mem_of_getElem? hy)
 · obtain ⟨y,hy,rfl⟩:=Option.map_eq_some_iff.1 hi
   exact h y (List.mem_of_getElem? hy)
theorem cutN_ok {a b c:Int}:∀ {n k:Nat} {l r:List CE},OkRs l→cutN a b c n k l=some r→OkRs r
 | 0,_,_,_,h,e=>by simp [cutN] at e; rw [← e]; exact h
 | n+1,k,l,r,h,e=>by
  rw [cutN] at e
  split at e
  · exact cutN_ok (gone_ok h) e
  · cases e
theorem tyN_ok {dv sq tm:Int} {s:ByteArray} (h1:InR dv) (h2:InR sq):∀ {n k:Nat} {i:Sq.ID} {l:List CE},k+n≤64→InR i.1→InR i.2.1→InR i.2.2→OkRs l→OkRs (tyN dv sq tm s n k i l).1
 | 0,_,_,_,_,_,_,_,h=>h
 | n+1,k,i,l,hk,g1,g2,g3,h=>by
  rw [tyN]
  split
  · exact fun x hx=>by cases hx
  · exact tyN_ok h1 h2 (by omega) h1 h2 (by show InR (k:Int); unfold InR; omega) (insV_ok h (tyC_ok h1 h2 (by omega) g1 g2 g3))
theorem zT_ok:OkT zT:=⟨fun x hx=>(by cases hx),fun x hx=>(by cases hx)⟩
theorem edR_ok {t:TE} {e:ED} (h:OkT t) (hE:OkE e):OkT (edR t e).1:=by
 unfold edR
 split
 · unfold typR
   split
   · exact zT_ok
   · split
     · exact zT_ok
     · split
       · exact ⟨tyN_ok hE.dv hE.sq (by omega) hE.a hE.b hE.c h.cells,h.marks⟩
       · exact zT_ok
 · split
   · unfold cutR
     split
     · exact zT_ok
     · split
       · exact zT_ok
       · split
         · rename_i hr; exact ⟨cutN_ok h.cells hr,h.marks⟩
         · exact zT_ok
   · unfold addR
     split
     · exact zT_ok
     · split
       · exact zT_ok
       · split
         · exact zT_ok
         · refine ⟨h.cells,fun m hm=>?_⟩
           have hm:m∈addM e.m t.marks:=hm
           rcases List.mem_cons.1 ((addM_perm _ _).mem_iff.1 hm) with rfl | hm
           · exact hE.m
           · exact h.marks m hm
end Go.Tx


namespace Go.Tx
open Go Go.Am Go.Proofs Go.Seat
open Go.Sq (CE cel ces ida idv pid fX fiO OkRs OkR chkE insE insV formsB Ok Ids lvl all clash More ers goneAt)
theorem styR_ok {t:TE} (hV:Val t) {k:Nat} (hk:k<t.cells.length):styR t k=(styV t k,0):=by
 unfold styR
 rw [if_neg (by simpa using hV.chk),if_neg (by omega)]
end Go.Tx


namespace Go.Tx
open Go Go.Am Go.Proofs Go.Seat
open Go.Sq (CE cel ces ida idv pid fX fiO OkRs OkR chkE insE insV formsB Ok Ids lvl all clash More ers goneAt)
theorem onF_congr {l l':List CE} {i j s:Int}:∀ {v:List MK} {b:Bool},(∀ m∈v,conB l m i=conB l' m j)→onF l i s b v=onF l' j s b v
 | [],_,_=>rfl
 | m::v,b,h=>by
  rw [onF,onF,h m (List.mem_cons_self ..)]
  exact onF_congr fun x hx=>h x (List.mem_cons_of_mem _ hx)
theorem stF_congr {t x:TE} {i j:Int} (hm:t.marks=x.marks) (h:∀ m∈t.marks,conB t.cells m i=conB x.cells m j):∀ n s,stF t i n s=stF x j n s
 | 0,_=>rfl
 | n+1,s=>by
  have e:onF t.cells i (s:Int) false t.marks=onF x.cells j (s:Int) false x.marks:=by rw [← hm]; exact onF_congr h
  rw [stF,stF,e,stF_congr hm h n (s+1)]
end Go.Tx


namespace Go.Tx
open Go Go.Am Go.Proofs Go.Seat
open Go.Sq (CE cel ces ida idv pid fX fiO OkRs OkR chkE Ids)
theorem wr_in {x:Int} (h:InR x):IntKind.wrap IntKind.i64 x=x:=by
 obtain ⟨h1,h2⟩:=h
 simp only [IntKind.wrap,IntKind.bits,IntKind.signed,Bool.true_and]
 split
 · rename_i hs; simp at hs; omega
 · rename_i hs; simp at hs; omega
theorem wr_small {c:Int} {k:Nat} (h0:0≤c) (h1:c≤63) (hk:k≤64):wr c k=c+(k:Int):=wr_in ⟨by omega,by omega⟩
abbrev eC (a b c n:Int):ED:=⟨1,0,n,0,0,a,b,c,.empty,⟨0,0,0,0,0,0,0,0,0,0,false⟩⟩
theorem eC_ok {a b c n:Int} (ha:InR a) (hb:InR b) (hc:InR c) (hn:InR n):OkE (eC a b c n) :=
 have z:InR 0:=by unfold InR; omega
 ⟨by show InR (1:Int); unfold InR; omega,z,hn,z,z,ha,hb,hc,⟨z,z,z,z,z,z,z,z,z,z⟩,by show (0:Nat)≤_; omega⟩
def inC (a b c n:Int) (u:CE):Bool:=decide (u.dv=a∧u.sq=b∧u.at'≥c∧u.at' - c<n)
theorem at_rng {t:TE} (hV:Val t) {u:CE} (hu:u∈t.cells):0≤u.at'∧u.at'≤63:=by
 have:=(Sq.forms_iff.1 (Sq.chk_iff.1 hV.cells).1).1.valid u hu
 unfold Sq.validB Sq.idB at this
 grind
theorem c_rng {t:TE} {a b c n:Int} (hV:Val t) (hc:InR c) (h:CuOk t (eC a b c n)):0≤c∧c≤63:=by
 obtain ⟨⟨n1,_⟩,h2⟩:=h
 have n1:1≤n:=n1
 obtain ⟨x,hx,e⟩:=h2 0 (by show 0<n.toNat; omega)
 have hr:=at_rng hV hx
 have e3:x.at'=wr c (0+0):=congrArg (fun i:Sq.ID=>i.2.2) e
 have e4:wr c (0+0)=c:=wr_in (x:=c+((0+0:Nat):Int)) ⟨by have:=hc.1; omega,by have:=hc.2; omega⟩ |>.trans (by omega)
 omega
theorem inC_iff {a b c n:Int} {u:CE} (c0:0≤c) (c1:c≤63) (u1:u.at'≤63) (n1:n≤64):inC a b c n u=true↔∃ j,j<n.toNat∧u.id=(a,b,wr c (0+j)):=by
 unfold inC
 rw [decide_eq_true_eq]
 constructor
 · rintro ⟨rfl,rfl,h3,h4⟩
   refine ⟨(u.at' - c).toNat,by omega,?_⟩
   have e:wr c (0+(u.at' - c).toNat)=u.at':=by rw [wr_small c0 c1 (by omega)]; omega
   rw [e]; rfl
 · rintro ⟨j,hj,e⟩
   have e1:u.dv=a:=congrArg (fun i:Sq.ID=>i.1) e
   have e2:u.sq=b:=congrArg (fun i:Sq.ID=>i.2.1) e
   have e3:u.at'=wr c (0+j):=congrArg (fun i:Sq.ID=>i.2.2) e
   rw [wr_small c0 c1 (by omega)] at e3
   exact ⟨e1,e2,by omega,by omega⟩
abbrev gn1 (u:CE):CE:=⟨u.dv,u.sq,u.at',u.ad,u.as',u.aa,u.tm,u.vl,true⟩
theorem CF_is {a b c n:Int} {u:CE} (c0:0≤c) (c1:c≤63) (u1:u.at'≤63) (n1:n≤64):CF (eC a b c n) u=if inC a b c n u=true then gn1 u else u:=by
 have A:=CF_alike (eC a b c n)
 by_cases h:inC a b c n u=true
 · rw [if_pos h]
   exact ce_ext (A.dv u) (A.sq u) (A.at' u) (A.ad u) (A.as' u) (A.aa u) (A.tm u) (A.vl u) (cutF_gn.2 (.inr ((inC_iff c0 c1 u1 n1).1 h)))
 · rw [if_neg h]
   exact cutF_no fun j hj e=>h ((inC_iff c0 c1 u1 n1).2 ⟨j,hj,e⟩)
theorem CF_two (e:ED) (u:CE):CF e (CF e u)=CF e u:=Alike_ext (alike_comp (CF_alike e) (CF_alike e)) (CF_alike e) (by
 rw [Bool.eq_iff_iff]
 exact ⟨fun h=>(cutF_gn.1 h).elim id fun ⟨j,hj,k⟩=>cutF_gn.2 (.inr ⟨j,hj,((CF_alike e).id u).symm.trans k⟩),fun h=>cutF_gn.2 (.inl h)⟩)
theorem met_is {t:TE} {a b c n:Int} (hV:Val t) (h:CuOk t (eC a b c n)) (c0:0≤c) (c1:c≤63):((t.cells.filter (inC a b c n)).length:Int)=n:=by
 obtain ⟨⟨n1,n2⟩,h2⟩:=h
 have n1:1≤n:=n1
 have n2:n≤64:=n2
 have hp:((t.cells.filter (inC a b c n)).map CE.id).Perm ((List.range n.toNat).map fun j:Nat=>((a,b,c+((j:Nat):Int)):Sq.ID)):=by
  refine (List.perm_ext_iff_of_nodup ?_ ?_).2 fun i=>?_
  · exact List.pairwise_map.2 (hV.ids.filter _)
  · exact List.pairwise_map.2 (List.nodup_range.imp fun {x y} q e=>q (by
     have:c+(x:Int)=c+(y:Int):=congrArg (fun i:Sq.ID=>i.2.2) e
     omega))
  · constructor
    · intro hi
      obtain ⟨u,hu,rfl⟩:=List.mem_map.1 hi
      obtain ⟨hu,hc⟩:=List.mem_filter.1 hu
      obtain ⟨j,hj,e⟩:=(inC_iff c0 c1 (at_rng hV hu).2 n2).1 hc
      rw [wr_small c0 c1 (by omega)] at e
      exact List.mem_map.2 ⟨j,List.mem_range.2 hj,by rw [e,Nat.zero_add]⟩
    · intro hi
      obtain ⟨j,hj,rfl⟩:=List.mem_map.1 hi
      have hj:=List.mem_range.1 hj
      obtain ⟨u,hu,e⟩:=h2 j hj
      have e:u.id=(a,b,wr c (0+j)):=e
      refine List.mem_map.2 ⟨u,List.mem_filter.2 ⟨hu,(inC_iff c0 c1 (at_rng hV hu).2 n2).2 ⟨j,hj,e⟩⟩,?_⟩
      rw [e,wr_small c0 c1 (by omega),Nat.zero_add]
 have:=hp.length_eq
 rw [List.length_map,List.length_map,List.length_range] at this
 omega
theorem cutR_z {t:TE} {i:Sq.ID} {n:Int} (h:(cutR t i n).2≠0):(cutR t i n).1=zT:=by
 unfold cutR at *
 split
 · rfl
 · rename_i hc
   rw [if_neg hc] at h
   split
   · rfl
   · rename_i hs
     rw [if_neg hs] at h
     split
     · rename_i l hl
       rw [hl] at h
       exact absurd rfl h
     · rfl
theorem sty_map {t:TE} {g:CE→CE} (hg:Sq.Alike g) (i:Int):styV ⟨t.cells.map g,t.marks⟩ i=styV t i:=by
 have q:∀ j:Sq.ID,ixP (t.cells.map g) j=ixP t.cells j:=fun j=>by
  unfold ixP
  rw [Sq.fX_map hg]
 unfold styV
 exact (stF_congr (t:=t) (x:=⟨t.cells.map g,t.marks⟩) rfl (fun m hm=>by unfold conB; rw [q,q]) 16 0).symm
end Go.Tx


namespace Go.Tx
open Go Go.Am Go.Proofs Go.Seat
open Go.Sq (CE cel ces ida idv pid fX fiO OkRs OkR chkE Ids)
theorem vl_self (s:ByteArray):(s == s)=true:=by
 cases s with | mk d =>
 show (d == d)=true
 exact beq_self_eq_true _
theorem tu_loop (t x:TE) (a b c n:Int) (hl:t.cells.length≤40) (hrng:∀ u∈t.cells,0≤u.at'∧u.at'≤63) (r3:0≤c) (r4:c≤63)
 (hx:∀ (k:Nat) (u:CE),t.cells[k]? = some u→x.cells[k]? = some (if inC a b c n u=true then gn1 u else u))
 (h16:∀ k:Nat,(styV t (k:Int)).length≤16)
 (hS:∀ k:Nat,k<t.cells.length→CallC P G 13 [txt t,int k] [] (.ret (.tup [ils (styV t (k:Int)),int 0])) [])
 (hT:∀ k:Nat,k<t.cells.length→CallC P G 13 [txt x,int k] [] (.ret (.tup [ils (styV t (k:Int)),int 0])) []):∀ d k met,t.cells.length - k=d→k≤t.cells.length→met+d≤40 →
 RunL P G none 0 (loopAt P 7 0) (tuS t x a b c n met k) (.exit 0) (tuX t x a b c n (met+((t.cells.drop k).filter (inC a b c n)).length)):=by
 intro d
 induction d with
 | zero =>
  intro k met hd hk hm
  rw [List.drop_eq_nil_of_le (by omega)]
  exact tu_e t x a b c n met k (by omega) trivial
 | succ d ih =>
  intro k met hd hk hm
  have hlt:k<t.cells.length:=by omega
  have hu:t.cells[k]? = some t.cells[k]:=List.getElem?_eq_getElem hlt
  obtain ⟨r1,r2⟩:=hrng _ (List.getElem_mem hlt)
  have hv:=hx k _ hu
  have h1:=h16 k
  have hE:=slist_c (styV t (k:Int)) (styV t (k:Int)) (by omega) (by omega)
  rw [decide_eq_true rfl] at hE
  rw [List.drop_eq_getElem_cons hlt,List.filter_cons]
  have ec:tcC t k=t.cells[k]:=Option.some.inj ((tcC_get hlt).symm.trans hu)
  have hlx:k<x.cells.length:=(List.getElem?_eq_some_iff.1 hv).1
  by_cases hi:inC a b c n t.cells[k]=true
  · rw [if_pos hi] at hv ⊢
    have ed:tcC x k=gn1 t.cells[k]:=Option.some.inj ((tcC_get hlx).symm.trans hv)
    have nx:=ih (k+1) (met+1) (by omega) (by omega) (by omega)
    rw [List.length_cons,show met+(((t.cells.drop (k+1)).filter (inC a b c n)).length+1)=met+1+((t.cells.drop (k+1)).filter (inC a b c n)).length by omega]
    obtain ⟨q1,q2,q3,q4⟩:=of_decide_eq_true hi
    have key:=tu_c t x a b c n met k (styV t (k:Int)) hl (by omega) (by omega) hlt hlx
    rw [ec,ed] at key
    exact key r1 r2 r3 r4 rfl rfl rfl rfl rfl rfl rfl (beq_self_eq_true _) rfl q1 q2 q3 q4 (hS k hlt) (hT k hlt) hE _ _
     ⟨fun _=>⟨fun _=>⟨fun _=>nx,fun h=>absurd h (by simp [gn1,vl_self])⟩,fun h=>absurd h (by simp [gn1])⟩,fun _=>⟨fun _=>⟨fun _=>nx,fun h=>absurd h (by simp [gn1,vl_self])⟩,fun h=>absurd h (by simp [gn1,q4])⟩⟩
  · rw [if_neg hi] at hv ⊢
    have ed:tcC x k=t.cells[k]:=Option.some.inj ((tcC_get hlx).symm.trans hv)
    have nx:=ih (k+1) met (by omega) (by omega) (by omega)
    by_cases q1:t.cells[k].dv=a
    · by_cases q2:t.cells[k].sq=b
      · by_cases q3:t.cells[k].at'≥c
        · have q4:¬ t.cells[k].at' - c<n:=fun q4=>hi (decide_eq_true ⟨q1,q2,q3,q4⟩)
          have key:=tu_n4 t x a b c n met k (styV t (k:Int)) hl (by omega) (by omega) hlt hlx
          rw [ec,ed] at key
          exact key r1 r2 r3 r4 rfl rfl rfl rfl rfl rfl rfl (beq_self_eq_true _) rfl q1 q2 q3 q4 (hS k hlt) (hT k hlt) hE _ _
           ⟨fun _=>⟨fun _=>⟨fun _=>nx,fun h=>absurd h (by simp [vl_self])⟩,fun h=>absurd h (by simp_all)⟩,fun h0=>⟨fun _=>⟨fun _=>nx,fun h=>absurd h (by simp [vl_self])⟩,fun h=>absurd h (by simp [q4,h0])⟩⟩
        · have key:=tu_n3 t x a b c n met k (styV t (k:Int)) hl (by omega) (by omega) hlt hlx
          rw [ec,ed] at key
          exact key r1 r2 r3 r4 rfl rfl rfl rfl rfl rfl rfl (beq_self_eq_true _) rfl q1 q2 q3 (hS k hlt) (hT k hlt) hE _ _
           ⟨fun h0=>⟨fun _=>⟨fun _=>nx,fun h=>absurd h (by simp [vl_self])⟩,fun h=>absurd h (by simp [h0])⟩,fun h0=>⟨fun _=>⟨fun _=>nx,fun h=>absurd h (by simp [vl_self])⟩,fun h=>absurd h (by simp [h0])⟩⟩
      · have key:=tu_n2 t x a b c n met k (styV t (k:Int)) hl (by omega) (by omega) hlt hlx
        rw [ec,ed] at key
        exact key r1 r2 r3 r4 rfl rfl rfl rfl rfl rfl rfl (beq_self_eq_true _) rfl q1 q2 (hS k hlt) (hT k hlt) hE _ _
         ⟨fun h0=>⟨fun _=>⟨fun _=>nx,fun h=>absurd h (by simp [vl_self])⟩,fun h=>absurd h (by simp [h0])⟩,fun h0=>⟨fun _=>⟨fun _=>nx,fun h=>absurd h (by simp [vl_self])⟩,fun h=>absurd h (by simp [h0])⟩⟩
    · have key:=tu_n1 t x a b c n met k (styV t (k:Int)) hl (by omega) (by omega) hlt hlx
      rw [ec,ed] at key
      exact key r1 r2 r3 r4 rfl rfl rfl rfl rfl rfl rfl (beq_self_eq_true _) rfl q1 (hS k hlt) (hT k hlt) hE _ _
       ⟨fun h0=>⟨fun _=>⟨fun _=>nx,fun h=>absurd h (by simp [vl_self])⟩,fun h=>absurd h (by simp [h0])⟩,fun h0=>⟨fun _=>⟨fun _=>nx,fun h=>absurd h (by simp [vl_self])⟩,fun h=>absurd h (by simp [h0])⟩⟩
theorem tcut_h (t:TE) (i:Int × Int × Int) (n:Int) (h:OkA t) (hi:InR i.1∧InR i.2.1∧InR i.2.2) (hn:InR n):CallC P G 7 [txt t,ida i.1 i.2.1 i.2.2,int n] [] (.ret (bool true)) []:=by
 obtain ⟨a,b,c⟩:=i
 obtain ⟨ha,hb,hc⟩:=hi
 have hf:=few_c t
 by_cases hF:t.cells.length≤40∧t.marks.length≤12
 · rw [decide_eq_true hF] at hf
   obtain ⟨l1,l2⟩:=hF
   have hL:LenT t:=⟨by omega,by omega⟩
   have hT:=cut_c t a b c n hL h.1
   by_cases he:(cutR t (a,b,c) n).2=0
   · have he':(edR t (eC a b c n)).2=0:=he
     obtain ⟨hV,⟨h0,_⟩ | ⟨_,_,hC,e1⟩ | ⟨_,h1,_⟩⟩:=ed_inv he'
     · exact absurd (show (1:Int)=0 from h0) (by decide)
     · have hOx:=edR_ok h.1 (eC_ok ha hb hc hn)
       rw [e1] at hOx
       have e1:cutR t (a,b,c) n=(⟨t.cells.map (CF (eC a b c n)),t.marks⟩,0):=e1
       obtain ⟨c0,c1⟩:=c_rng hV hc hC
       have hVx:Val ⟨t.cells.map (CF (eC a b c n)),t.marks⟩:=val_map (CF_alike _) hV
       have hLx:LenT ⟨t.cells.map (CF (eC a b c n)),t.marks⟩:=⟨by simp; omega,by show t.marks.length≤_; omega⟩
       have hU:=cut_c ⟨t.cells.map (CF (eC a b c n)),t.marks⟩ a b c n hLx hOx
       have hCx:CuOk ⟨t.cells.map (CF (eC a b c n)),t.marks⟩ (eC a b c n):=⟨hC.1,hC.2.up fun x hx=>⟨CF (eC a b c n) x,List.mem_map.2 ⟨x,hx,rfl⟩,cutF_alike.id x⟩⟩
       have e2:cutR ⟨t.cells.map (CF (eC a b c n)),t.marks⟩ (a,b,c) n=(⟨t.cells.map (CF (eC a b c n)),t.marks⟩,0):=by
        refine (cut_mk hVx hCx).trans ?_
        show ((⟨(t.cells.map (CF (eC a b c n))).map (CF (eC a b c n)),t.marks⟩:TE),(0:Int))=_
        rw [List.map_map]
        have:(CF (eC a b c n)) ∘ (CF (eC a b c n))=CF (eC a b c n):=funext fun u=>CF_two _ u
        rw [this]
       rw [e1] at hT
       rw [e2] at hU
       have hSm:=same_c ⟨t.cells.map (CF (eC a b c n)),t.marks⟩ ⟨t.cells.map (CF (eC a b c n)),t.marks⟩ (by simp; omega) (by simp; omega) (by show t.marks.length≤_; omega) (by show t.marks.length≤_; omega)
       rw [decide_eq_true rfl] at hSm
       have hmet:=met_is hV hC c0 c1
       have hSt:∀ k:Nat,k<t.cells.length→CallC P G 13 [txt t,int k] [] (.ret (.tup [ils (styV t (k:Int)),int 0])) []:=fun k hk=>by
        have:=styles_c t k hL h.1
        rw [styR_ok hV hk] at this
        exact this
       have hSx:∀ k:Nat,k<t.cells.length→CallC P G 13 [txt ⟨t.cells.map (CF (eC a b c n)),t.marks⟩,int k] [] (.ret (.tup [ils (styV t (k:Int)),int 0])) []:=fun k hk=>by
        have:=styles_c ⟨t.cells.map (CF (eC a b c n)),t.marks⟩ k hLx hOx
        rw [styR_ok hVx (by simpa using hk),sty_map (CF_alike _)] at this
        exact this
       have hR:=tu_loop t ⟨t.cells.map (CF (eC a b c n)),t.marks⟩ a b c n l1 (fun u hu=>at_rng hV hu) c0 c1 (fun k u hu=>by
        show (t.cells.map (CF (eC a b c n)))[k]? = _
        rw [List.getElem?_map,hu,Option.map_some,CF_is c0 c1 (at_rng hV (List.mem_of_getElem? hu)).2 hC.1.2]) (fun k=>styV_len t _) hSt hSx _ 0 0 rfl (Nat.zero_le _) (by omega)
       rw [List.drop_zero,Nat.zero_add] at hR
       exact tu_2 t ⟨t.cells.map (CF (eC a b c n)),t.marks⟩ a b c n _ (by simp) hmet.symm hf hT hU hSm hR true (by rw [beq_iff_eq]; exact hmet)
     · exact absurd rfl h1
   · have hz:=cutR_z he
     have hT2:CallC P G 31 [txt t,ida a b c,int n] [] (.ret (.tup [.agg [ces [],mks []],int (cutR t (a,b,c) n).2])) []:=by rw [hz] at hT; exact hT
     exact tu_1 t a b c n _ he hf hT2 trivial
 · rw [decide_eq_false hF] at hf
   exact tu_0 t a b c n hf trivial
end Go.Tx
