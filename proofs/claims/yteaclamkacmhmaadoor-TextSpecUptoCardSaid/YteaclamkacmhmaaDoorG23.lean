import Derived.Test.YteaclamkacmhmaaDoorG22
import Derived.OpenShut
import Derived.LaidMore
import Derived.Test.YteaclamkacmhmaaDoorRows
import Derived.KernelRfl
set_option maxRecDepth 100000
set_option linter.unusedSimpArgs false
set_option linter.unusedVariables false

namespace Go.Tx
open Go Go.Am Go.Proofs Go.Seat
open Go.Sq (CE cel ces ida idv pid fX fiO OkRs OkR chkE)
theorem cz3:Tryd.prog.cellsOf 3=1:=by kernel_rfl
theorem cz4:Tryd.prog.cellsOf 4=1:=by kernel_rfl
theorem cz5:Tryd.prog.cellsOf 5=1:=by kernel_rfl
theorem cz9:Tryd.prog.cellsOf 9=1:=by kernel_rfl
theorem czCs:Tryd.prog.cellsOf 22=1:=by kernel_rfl
theorem czMs:Tryd.prog.cellsOf 23=1:=by kernel_rfl
theorem czID:Tryd.prog.cellsOf 45=3:=by kernel_rfl
theorem czD:Tryd.prog.cellsOf 43=2:=by kernel_rfl
theorem czC:Tryd.prog.cellsOf 58=9:=by kernel_rfl
theorem czM:Tryd.prog.cellsOf 47=11:=by kernel_rfl
theorem czT:Tryd.prog.cellsOf 25=2:=by kernel_rfl
noncomputable def cInt:Cod Tryd.prog 3 Int:=Cod.int Tryd.underlying3 cz3
noncomputable def cStr:Cod Tryd.prog 9 ByteArray:=Cod.str Tryd.underlying9 cz9
noncomputable def cBool:Cod Tryd.prog 4 Bool:=Cod.bool Tryd.underlying4 cz4
noncomputable def cDot:Cod Tryd.prog 43 (Int × Int):=Cod.struct Tryd.underlying43 (by kernel_rfl) (FCod.cons cInt rfl (FCod.cons cInt (by kernel_rfl) FCod.nil)) (fun a=>(a.1,a.2.1)) (fun a=>[Am.int a.1,Am.int a.2]) (fun _=>rfl) (fun _=>czD.symm)
noncomputable def cID:Cod Tryd.prog 45 (Int × Int × Int):=Cod.struct Tryd.underlying45 (by kernel_rfl) (FCod.cons cInt rfl (FCod.cons cInt (by kernel_rfl) (FCod.cons cInt (by kernel_rfl) FCod.nil))) (fun a=>(a.1,a.2.1,a.2.2.1)) (fun a=>[Am.int a.1,Am.int a.2.1,Am.int a.2.2]) (fun _=>rfl) (fun _=>czID.symm)
abbrev AC:=(Int × Int × Int) × (Int × Int × Int) × Int × ByteArray × Bool × Unit
noncomputable def cCE:Cod Tryd.prog 58 CE:=Cod.struct Tryd.underlying58 (by kernel_rfl) (FCod.cons cID rfl (FCod.cons cID (by kernel_rfl) (FCod.cons cInt (by kernel_rfl) (FCod.cons cStr (by kernel_rfl) (FCod.cons cBool (by kernel_rfl) FCod.nil)))))
 (fun a:AC=>⟨a.1.1,a.1.2.1,a.1.2.2,a.2.1.1,a.2.1.2.1,a.2.1.2.2,a.2.2.1,a.2.2.2.1,a.2.2.2.2.1⟩) Sq.enc (fun a:AC=>rfl) (fun _=>czC.symm)
noncomputable def cCells:Cod Tryd.prog 22 (List CE):=Cod.slice Tryd.underlying22 czCs (by rw [czC]; decide) cCE
theorem cCells_enc (v:List CE):cCells.enc v=[ces v]:=by
 show [AV.sl (Tryd.prog.cellsOf 58) false (v.map Sq.enc)]=[AV.sl 9 false (v.map Sq.enc)]
 rw [czC]
abbrev AMk:=(Int × Int) × Int × (Int × Int × Int) × (Int × Int × Int) × Int × Bool × Unit
noncomputable def cMK:Cod Tryd.prog 47 MK:=Cod.struct Tryd.underlying47 (by kernel_rfl) (FCod.cons cDot rfl (FCod.cons cInt (by kernel_rfl) (FCod.cons cID (by kernel_rfl) (FCod.cons cID (by kernel_rfl) (FCod.cons cInt (by kernel_rfl) (FCod.cons cBool (by kernel_rfl) FCod.nil))))))
 (fun a:AMk=>⟨a.1.1,a.1.2,a.2.1,a.2.2.1.1,a.2.2.1.2.1,a.2.2.1.2.2,a.2.2.2.1.1,a.2.2.2.1.2.1,a.2.2.2.1.2.2,a.2.2.2.2.1,a.2.2.2.2.2.1⟩) enc (fun a:AMk=>rfl) (fun _=>czM.symm)
noncomputable def cMarks:Cod Tryd.prog 23 (List MK):=Cod.slice Tryd.underlying23 czMs (by rw [czM]; decide) cMK
theorem cMarks_enc (v:List MK):cMarks.enc v=[mks v]:=by
 show [AV.sl (Tryd.prog.cellsOf 47) false (v.map enc)]=[AV.sl 11 false (v.map enc)]
 rw [czM]
abbrev AT:=List CE × List MK × Unit
noncomputable def cTE:Cod Tryd.prog 25 TE:=Cod.struct Tryd.underlying25 (by kernel_rfl) (FCod.cons cCells rfl (FCod.cons cMarks (by kernel_rfl) FCod.nil)) (fun a:AT=>⟨a.1,a.2.1⟩) (fun t=>[ces t.cells,mks t.marks]) (fun a:AT=>by
 show [ces a.1,mks a.2.1]=cCells.enc a.1++(cMarks.enc a.2.1++[])
 rw [cCells_enc,cMarks_enc]; rfl) (fun _=>czT.symm)
theorem cDot_ok {i:Int × Int} (h:cDot.good i):InR i.1∧InR i.2:=by
 obtain ⟨⟨_,_,_⟩,rfl,f1,f2,_⟩:=h
 exact ⟨f1,f2⟩
theorem cID_ok {i:Int × Int × Int} (h:cID.good i):InR i.1∧InR i.2.1∧InR i.2.2:=by
 obtain ⟨⟨_,_,_,_⟩,rfl,f1,f2,f3,_⟩:=h
 exact ⟨f1,f2,f3⟩
def SzC (l:List CE):Prop:=∀ x∈l,x.vl.size≤9223372036854775807
theorem cCE_ok {c:CE} (h:cCE.good c):OkR c∧c.vl.size≤9223372036854775807∧InR c.tm:=by
 obtain ⟨⟨_,_,_,_,_,_⟩,rfl,f1,f2,f3,f4,_⟩:=h
 exact ⟨⟨cID_ok f1,cID_ok f2⟩,f4,f3⟩
theorem cMK_ok {m:MK} (h:cMK.good m):OkM m:=by
 obtain ⟨⟨_,_,_,_,_,_,_⟩,rfl,f1,f2,f3,f4,f5,_⟩:=h
 have h1:=cDot_ok f1
 have h3:=cID_ok f3
 have h4:=cID_ok f4
 exact ⟨h1.1,h1.2,f2,h3.1,h3.2.1,h3.2.2,h4.1,h4.2.1,h4.2.2,f5⟩
theorem cTE_ok {t:TE} (h:cTE.good t):OkT t∧SzC t.cells∧∀ x∈t.cells,InR x.tm:=by
 obtain ⟨⟨_,_,_⟩,rfl,f1,f2,_⟩:=h
 exact ⟨⟨fun x hx=>(cCE_ok (f1.2 x hx)).1,fun x hx=>cMK_ok (f2.2 x hx)⟩,fun x hx=>(cCE_ok (f1.2 x hx)).2.1,fun x hx=>(cCE_ok (f1.2 x hx)).2.2⟩
section
variable {H:Type} {en:TypeId × Value→H} {W:World} {base:Nat} {v:Value} {d:DataW H} {ps:List MemPlace}
theorem reads_agg {α:Type} {t:TypeId} {fs:Array Field} (c:Cod Tryd.prog t α) (hu:Tryd.prog.underlying t=some (.struct fs)) (hv:Value.okWide Tryd.prog W .any base t v) (h:DataW.Trod en Tryd.prog W 0 (fun _=>true) true t v d ps):∃ a,c.good a∧Rep (view0 W) (.agg (c.enc a)) v:=by
 have hagg:∃ cs,v = .agg cs:=by
  unfold Value.okWide at hv
  rw [hu] at hv
  exact ⟨_,hv.choose_spec.1⟩
 obtain ⟨⟨cs⟩,rfl⟩:=hagg
 obtain ⟨n,hn⟩:=h
 have hn':DataW.trod en Tryd.prog W 0 (fun _=>true) true n t cs=some (d,ps):=hn
 obtain ⟨o,g,hl,hp⟩:=c.rd hn'
 exact ⟨o,g,.agg _ _ hl fun j hj=>.pure _ _ (hp j (by rw [hl]; exact hj)).1⟩
theorem reads_text (hv:Value.okWide Tryd.prog W .any base 25 v) (h:DataW.Trod en Tryd.prog W 0 (fun _=>true) true 25 v d ps):∃ t:TE,(OkT t∧SzC t.cells∧∀ x∈t.cells,InR x.tm)∧Rep (view0 W) (txt t) v:=by
 obtain ⟨a,h1,h2⟩:=reads_agg cTE Tryd.underlying25 hv h
 exact ⟨a,cTE_ok h1,h2⟩
theorem reads_int (hv:Value.okWide Tryd.prog W .any base 3 v) (h:DataW.Trod en Tryd.prog W 0 (fun _=>true) true 3 v d ps):∃ n:Int,InR n∧Rep (view0 W) (Am.int n) v :=
 cInt.one (by kernel_rfl) hv h (mk:=Am.int) (fun _=>rfl)
end
theorem gT:Tryd.prog.globalNamed "math/bits.deBruijn32tab" = some 0:=by kernel_rfl
theorem tT:(Tryd.prog.globals[0]?).map (·.type)=some 124:=by kernel_rfl
theorem globs {W:World} (h:laidMetH Tryd.prog [("math/bits.deBruijn32tab",Go.Proofs.YteaclamkacmhmaaDoor.Rows.laid_math_bits_deBruijn32tab)] W):∀ g cs,G g=some cs→PRep W (fun _=>False) (.imm cs) (.pointer (some ⟨g,0,none⟩)):=by
 have h:laidMet Tryd.prog [("math/bits.deBruijn32tab",Go.Proofs.YteaclamkacmhmaaDoor.Rows.laid_math_bits_deBruijn32tab)] W:=h
 obtain ⟨_,⟨g',t,cs,fuel,p,q,hg,ht,hv,hd,_,_⟩,_⟩:=h
 obtain rfl:=Option.some.inj (gT.symm.trans hg)
 obtain rfl:=Option.some.inj (tT.symm.trans ht)
 obtain ⟨xs,m,_,hx,hl,hxl,hf⟩:=DataW.trod_array Tryd.underlying124 hd
 have hx1:xs.map (·.1)=tabB.map fun n=>DataW.lit (.int .u8 n):=by
  have:=(Prod.mk.inj hx).1
  exact (DataW.agg.inj this).symm
 have hlen:cs.toList.length=32:=hl.trans (by kernel_rfl)
 have cell:∀ j (hj:j<32),W.cell? ⟨0,j,none⟩=some (.int .u8 (tabB.getD j 0)):=fun j hj=>by
  have h1:=hf j hj
  have hjx:j<xs.length:=by omega
  rw [cz5,Nat.mul_one,List.getElem?_eq_getElem hjx] at h1
  obtain ⟨n,e1,e2,_⟩:=DataW.trod_int Tryd.underlying5 h1
  have hj2:j<cs.toList.length:=by omega
  rw [List.take_one,List.head?_drop,List.getElem?_eq_getElem hj2] at e1
  have e1:cs.toList[j] = .int .u8 n:=by simpa using e1
  have e3:(xs.map (·.1))[j]? = some (.lit (.int .u8 n)):=by rw [List.getElem?_map,List.getElem?_eq_getElem hjx,e2]; rfl
  rw [hx1,List.getElem?_map] at e3
  have hjt:j<tabB.length:=hj
  rw [List.getElem?_eq_getElem hjt] at e3
  have e4:tabB[j]=n:=by simpa using e3
  have:=World.var?_cell gT hv j
  rw [this,List.getD_eq_getElem?_getD,List.getElem?_eq_getElem hjt]
  have h5:cs[j]? = some cs.toList[j]:=by rw [← Array.getElem?_toList,List.getElem?_eq_getElem hj2]
  rw [h5,e1,← e4]
  rfl
 intro g cs' hg'
 unfold G at hg'
 split at hg'
 · rename_i e
   subst e
   cases hg'
   exact .imm _ _ (fun j=>.int .u8 (tabB.getD j 0)) rfl (fun _ h=>h) (fun j hj=>by rw [Nat.zero_add]; exact cell j (by simpa [tab,tabB] using hj)) (fun j hj=>by
    have hj:j<32:=by simpa [tab,tabB] using hj
    have:tab.getD j .dead = .lit (.int .u8 (tabB.getD j 0)):=by
     unfold tab
     rw [List.getD_eq_getElem?_getD,List.getElem?_map,List.getD_eq_getElem?_getD,List.getElem?_eq_getElem (show j<tabB.length from hj)]
     rfl
    rw [this]
    exact .lit _)
 · cases hg'
theorem door_met (os:Os) (args:Array Value):laidMetH Tryd.prog [("math/bits.deBruijn32tab",Go.Proofs.YteaclamkacmhmaaDoor.Rows.laid_math_bits_deBruijn32tab)] ((World.doorLaid Tryd.prog 600 os).forCall (fun _ _=>0) ⟨#[],args,[]⟩).memory :=
 laidMetH_of_parts3 (fuel:=8) (laidMet_of_run' 8 (by kernel_rfl) (by kernel_rfl)) (by kernel_rfl) (by kernel_rfl)
end Go.Tx


namespace Go.Tx
open Go Go.Am Go.Proofs Go.Seat
open Go.Sq (CE cel ces ida idv pid fX fiO OkRs OkR chkE)
open Go.Cdc (CV encL enc val vmk encL_length)
theorem tspe_0 (t:TE) (i:Int) (hf:CallC P G 12 [txt t] [] (.ret (bool false)) []) (h:True):CallC P G 3 [txt t,int i] [] (AOut.ret (Am.bool true)) []:=by
 have _:=h
 exact callC_of [kc [] (@Go.Tx.sane_w (trivial)),kf (Eq.refl false),kc [] (@hf ),kt (Eq.refl true)] (by kernel_rfl)
theorem tspe_1 (t:TE) (i e r:Int) (ls:List Int) (k n:Int) (vs:ByteArray) (vl:List CV) (s:ByteArray) (hf:CallC P G 12 [txt t] [] (.ret (bool true)) []) (hS:CallC P G 13 [txt t,int i] [] (.ret (.tup [ils ls,int e])) []) (hT:CallC P G 14 [txt t,int i] [] (.ret (.tup [ils ls,int e])) []) (hR:CallC P G 15 [txt t] [] (.ret (.tup [vmk k n vs vl,int r])) []) (hU:CallC P G 16 [txt t] [] (.ret (.tup [vmk k n vs vl,int r])) []) (hC:CallC P G 17 [txt t] [] (.ret (int r)) []) (hD:CallC P G 18 [txt t] [] (.ret (int r)) []) (hX:CallC P G 19 [txt t] [] (.ret (str s)) []) (hY:CallC P G 20 [txt t] [] (.ret (str s)) []) (hE:CallC P G 21 [ils ls,ils ls] [] (.ret (bool true)) []) (hV:CallC P G 22 [vmk k n vs vl,vmk k n vs vl] [] (.ret (bool true)) []) (h:((((ByteArray.toList s == ByteArray.toList s)=true)→(r == r)=(true))∧(((ByteArray.toList s == ByteArray.toList s)=false)→(false)=(true)))):CallC P G 3 [txt t,int i] [] (AOut.ret (Am.bool true)) []:=by
 have hz0:=(@Go.Tx.sane_w (trivial))
 have hz1:=(@hf )
 have hz2:=(@hS )
 have hz3:=(@hT )
 have hz4:=(@hR )
 have hz5:=(@hU )
 have hz6:=(@hC )
 have hz7:=(@hD )
 have hz8:(r == r)=true:=(decide_eq_true (by omega))
 have hz9:=(@hX )
 have hz10:=(@hY )
 rcases Bool.eq_false_or_eq_true ((ByteArray.toList s == ByteArray.toList s)) with c2 | c2
 · have h:=h.1 c2
   have e1:=h
   exact callC_out (Sub.bool_eq e1) [kc [] hz0,kf (Eq.refl false),kc [] hz1,kf (Eq.refl false),kc [] hz2,kc [] hz3,kc [] hz4,kc [] hz5,kc [] hz6,kc [] hz7,kt hz8,kc [] hz9,kc [] hz10,kt c2,kc [] (@hE ),kt (Eq.refl true),kt (show (e == e)=true from (decide_eq_true (by omega))),kc [] (@hV ),kt (Eq.refl true)] (by kernel_rfl)
 · have h:=h.2 c2
   have e1:=h
   exact callC_out (Sub.bool_eq e1) [kc [] hz0,kf (Eq.refl false),kc [] hz1,kf (Eq.refl false),kc [] hz2,kc [] hz3,kc [] hz4,kc [] hz5,kc [] hz6,kc [] hz7,kt hz8,kc [] hz9,kc [] hz10,kf c2,kf (Eq.refl false),kf (Eq.refl false),kf (Eq.refl false)] (by kernel_rfl)
end Go.Tx


namespace Go.Tx
open Go Go.Am Go.Proofs Go.Seat
abbrev OkA (t:TE):Prop:=OkT t∧SzC t.cells∧∀ x∈t.cells,InR x.tm
end Go.Tx


namespace Go.Tx
open Go Go.Am Go.Proofs Go.Seat Go.ChangeShapes Go.WideShapes Go.RowKit
open Go.Sq (CE cel ces ida idv pid fX fiO OkRs OkR chkE)
open Go.Proofs.YteaclamkacmhmaaDoor.Rows (uptoBulk uptoBulkAll)
theorem tspec_h (t:TE) (i:Int) (h:OkT t) (hs:sumS t.cells≤140737488355328):CallC P G 3 [txt t,int i] [] (.ret (bool true)) []:=by
 have hf:=few_c t
 by_cases hF:t.cells.length≤40∧t.marks.length≤12
 · rw [decide_eq_true hF] at hf
   have hL:LenT t:=⟨by omega,by omega⟩
   have hS:=styles_c t i hL h
   have hT:=rstyles_c t i hL
   have hR:=render_c t hL h
   have hU:=rrender_c t hL
   have hC:=check_c t hL h
   have hD:=rcheck_c t hL
   have hX:=str_c t (by omega) hs
   have hY:=rstr_c t (by omega) (by omega)
   have hE:=slist_c (styR t i).1 (styR t i).1 (by have:=styR_len t i; omega) (by have:=styR_len t i; omega)
   rw [decide_eq_true rfl] at hE
   have hV:=vsame_c (renE t) (renE t) (renE_small t hL)
   rw [decide_eq_true rfl] at hV
   obtain ⟨k,n,vs,vl,e⟩:∃ k n vs vl,renE t = .mk k n vs vl:=by cases hx:renE t with | mk k n s l=>exact ⟨k,n,s,l,rfl⟩
   rw [e] at hR hU hV
   exact tspe_1 t i _ _ _ k n vs vl _ hf hS hT hR hU hC hD hX hY hE hV ⟨fun _=>beq_self_eq_true _,fun h=>by rw [beq_self_eq_true] at h; cases h⟩
 · rw [decide_eq_false hF] at hf
   exact tspe_0 t i hf trivial
theorem bulk_all {H:Type}:∀ (l:List CE) (D:Nat→DataW H),(∀ i c,l[i]? = some c→c.vl.size≤uptoBulk (D i))→sumS l≤uptoBulkAll ((List.range l.length).map D)
 | [],_,_=>Nat.zero_le _
 | c::l,D,h=>by
  rw [List.length_cons,List.range_succ_eq_map,List.map_cons,List.map_map,sumS_cons]
  have h0:=h 0 c rfl
  have h1:=bulk_all l (D ∘ Nat.succ) fun i d hd=>h (i+1) d hd
  simp only [uptoBulkAll]
  omega
theorem bulk_at {H:Type}:∀ {l:List (DataW H)} {i:Nat} {d:DataW H},l[i]? = some d→uptoBulk d≤uptoBulkAll l
 | [],_,_,h=>by simp at h
 | x::l,0,d,h=>by
  simp at h; subst h
  simp only [uptoBulkAll]; omega
 | x::l,i+1,d,h=>by
  have:=bulk_at (l:=l) (i:=i) (by simpa using h)
  simp only [uptoBulkAll]; omega
theorem bulk_lit {H:Type} (l:List UInt8):uptoBulk (.lit (.string l):DataW H)=l.length+1:=by rw [uptoBulk]
theorem bulk_agg {H:Type} (l:List (DataW H)):uptoBulk (.agg l)=uptoBulkAll l+1:=by rw [uptoBulk]
theorem bulk_sl {H:Type} (l m:List (DataW H)):uptoBulk (.slice l m)=uptoBulkAll l+uptoBulkAll m+1:=by rw [uptoBulk]
theorem prep_str {W:World} {M:Nat→Prop} {s:ByteArray} {v:Value} (h:PRep W M (Am.str s) v):v = .string s:=by cases h; rfl
theorem rep_pure {V:View} {sz:Nat} {b:Bool} {xs:List (List AV)} {v:Value} (h:Rep V (.sl sz b xs) v):PRep V.w V.M (.sl sz b xs) v:=by cases h; assumption
theorem rep_agg {V:View} {xs:List AV} {v:Value} (h:Rep V (.agg xs) v):∃ vs:List Value,v = .agg vs.toArray∧vs.length=xs.length∧∀ j,j<xs.length→Rep V (xs.getD j .dead) (vs.getD j undef):=by
 cases h with
 | pure _ _ h=>cases h with | agg _ vs hl hr=>exact ⟨vs,rfl,hl,fun j hj=>.pure _ _ (hr j hj)⟩
 | agg _ vs hl hr=>exact ⟨vs,rfl,hl,hr⟩
theorem bulk_text {H:Type} {en:TypeId × Value→H} {W:World} {t:TE} {v:Value} {d:DataW H} {ps:List MemPlace} (hr:Rep (view0 W) (txt t) v) (h:DataW.Trod en Tryd.prog W 0 (fun _=>true) true 25 v d ps):sumS t.cells≤uptoBulk d:=by
 obtain ⟨vs,rfl,hl,hj⟩:=rep_agg hr
 have hl:vs.length=2:=hl
 have h0:=rep_pure (hj 0 (Nat.zero_lt_succ _))
 obtain ⟨n,hn⟩:=h
 have hn':DataW.trod en Tryd.prog W 0 (fun _=>true) true n 25 vs=some (d,ps):=hn
 obtain ⟨xs,m,_,hx,_,hxl,hf⟩:=DataW.trod_struct Tryd.underlying25 hn'
 have hxl':xs.length=2:=hxl
 have hd:d = .agg (xs.map (·.1)):=by cases hx; rfl
 have hx0:=hf 0 _ rfl
 rw [List.getElem?_eq_getElem (show 0<xs.length by omega)] at hx0
 have e0:(vs.drop 0).take 1=[vs.getD 0 undef]:=by
  match vs,hl with
  | [a,b],_=>rfl
 have hx0':DataW.trod en Tryd.prog W 0 (fun _=>true) true m 22 [vs.getD 0 undef]=some xs[0]:=by rw [← e0]; exact hx0
 have hb:uptoBulk xs[0].1≤uptoBulk d:=by
  rw [hd]
  have:=bulk_at (l:=xs.map (·.1)) (i:=0) (d:=xs[0].1) (by rw [List.getElem?_map,List.getElem?_eq_getElem (show 0<xs.length by omega)]; rfl)
  rw [bulk_agg]; omega
 refine Nat.le_trans ?_ hb
 generalize vs.getD 0 undef=v0 at h0 hx0'
 generalize xs[0]=x0 at hx0' ⊢
 have hlen:(Sq.encs t.cells).length=t.cells.length:=Sq.encs_length _
 cases h0 with
 | sl _ _ _ A cap b o ws hA hb hcap ht hsz hc ho hr =>
  rcases Go.Deep.open_slice Tryd.underlying22 hx0' with ⟨e1,rfl⟩ | ⟨a,len,cap',m',n',D,Pl,e1,_,hle,_,hmm,rfl,hx⟩
  · have:t.cells.length=0:=by
     rw [← hlen]
     injection e1 with e1 _
     injection e1 with _ e1 _
    rw [List.length_eq_zero_iff.1 this]
    exact Nat.zero_le _
  · injection e1 with e1 _
    injection e1 with e2 e3 e4
    subst e4
    have hle2:len≤m':=by rw [hmm]; split<;>omega
    have key:=bulk_all t.cells D fun i c hic=>by
     have hi:i<t.cells.length:=(List.getElem?_eq_some_iff.1 hic).1
     have hne:Sq.encs t.cells≠[]:=fun hh=>by rw [hh] at hlen; simp at hlen; omega
     have ha:=hA hne
     rw [ha] at e2
     injection e2 with e2
     subst e2
     obtain ⟨cs',g1,g2⟩:=hx i (by omega)
     obtain ⟨_,gl,gc⟩:=World.cells?_some g1
     have gl:cs'.length=9:=by rw [gl,czC]
     have q1:=hc i 7 (by omega) (by decide)
     have q2:=prep_str (show PRep (view0 W).w (view0 W).M (Am.str c.vl) (ws i 7) by
      have:=hr i 7 (by omega) (by decide)
      have eg:(Sq.encs t.cells).getD i []=Sq.enc c:=by
       rw [List.getD_eq_getElem?_getD,Sq.encs_get?,hic]; rfl
      rw [eg] at this
      exact this)
     have q3:=gc 7 (by rw [czC]; decide)
     rw [add_plain,add_plain,czC] at q3
     have q4:cs'[7]? = some (.string c.vl):=by
      rw [← q2,← q3]
      exact q1.symm ▸ rfl
     obtain ⟨zs,k,_,hz,_,hzl,hg⟩:=DataW.trod_struct Tryd.underlying58 g2
     have hzl':zs.length=5:=hzl
     have g3:=hg 3 _ rfl
     rw [List.getElem?_eq_getElem (show 3<zs.length by omega)] at g3
     have e5:(cs'.drop 7).take 1=[.string c.vl]:=by
      rw [List.take_one,List.head?_drop,q4]; rfl
     have g4:DataW.trod en Tryd.prog W 0 (fun _=>true) true k 9 [.string c.vl]=some zs[3]:=by rw [← e5]; exact g3
     obtain ⟨s',e6,e7,_⟩:=DataW.trod_string Tryd.underlying9 g4
     injection e6 with e6 _
     injection e6 with e6
     subst e6
     have hD:D i = .agg (zs.map (·.1)):=congrArg Prod.fst hz
     rw [hD]
     have:=bulk_at (l:=zs.map (·.1)) (i:=3) (d:=zs[3].1) (by rw [List.getElem?_map,List.getElem?_eq_getElem (show 3<zs.length by omega)]; rfl)
     rw [e7] at this
     rw [bulk_lit] at this
     rw [bulk_agg]
     have e8:c.vl.data.toList.length=c.vl.size:=Array.length_toList
     omega
    have hq:uptoBulkAll ((List.range t.cells.length).map D)≤uptoBulk (.slice ((List.range len).map D) ((List.range (m' - len)).map fun j=>D (len+j)):DataW H):=by
     rw [← hlen,e3,bulk_sl]; omega
    exact Nat.le_trans key hq
theorem tspec_u (t:TE) (i:Int) (h:OkA t) (_:InR i) (hs:sumS t.cells≤1048576):CallC P G 3 [txt t,int i] [] (.ret (bool true)) []:=tspec_h t i h.1 (by omega)
end Go.Tx
