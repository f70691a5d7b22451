import Derived.Test.YteaclamkacmhmaaDoorG22
import Derived.OpenShut
import Derived.LaidMore
import Derived.Test.YteaclamkacmhmaaDoorRows
import Derived.KernelRfl
set_option maxRecDepth 100000
set_option linter.unusedSimpArgs false
set_option linter.unusedVariables false

namespace Go.Tx
open Go Go.Am Go.Proofs Go.Seat
open Go.Sq (CE cel ces ida idv pid fX fiO OkRs OkR chkE)
theorem cz3:Tryd.prog.cellsOf 3=1:=by kernel_rfl
theorem cz4:Tryd.prog.cellsOf 4=1:=by kernel_rfl
theorem cz5:Tryd.prog.cellsOf 5=1:=by kernel_rfl
theorem cz9:Tryd.prog.cellsOf 9=1:=by kernel_rfl
theorem czCs:Tryd.prog.cellsOf 22=1:=by kernel_rfl
theorem czMs:Tryd.prog.cellsOf 23=1:=by kernel_rfl
theorem czID:Tryd.prog.cellsOf 45=3:=by kernel_rfl
theorem czD:Tryd.prog.cellsOf 43=2:=by kernel_rfl
theorem czC:Tryd.prog.cellsOf 58=9:=by kernel_rfl
theorem czM:Tryd.prog.cellsOf 47=11:=by kernel_rfl
theorem czT:Tryd.prog.cellsOf 25=2:=by kernel_rfl
theorem czE:Tryd.prog.cellsOf 49=20:=by kernel_rfl
noncomputable def cInt:Cod Tryd.prog 3 Int:=Cod.int Tryd.underlying3 cz3
noncomputable def cStr:Cod Tryd.prog 9 ByteArray:=Cod.str Tryd.underlying9 cz9
noncomputable def cBool:Cod Tryd.prog 4 Bool:=Cod.bool Tryd.underlying4 cz4
noncomputable def cDot:Cod Tryd.prog 43 (Int × Int):=Cod.struct Tryd.underlying43 (by kernel_rfl) (FCod.cons cInt rfl (FCod.cons cInt (by kernel_rfl) FCod.nil)) (fun a=>(a.1,a.2.1)) (fun a=>[Am.int a.1,Am.int a.2]) (fun _=>rfl) (fun _=>czD.symm)
noncomputable def cID:Cod Tryd.prog 45 (Int × Int × Int):=Cod.struct Tryd.underlying45 (by kernel_rfl) (FCod.cons cInt rfl (FCod.cons cInt (by kernel_rfl) (FCod.cons cInt (by kernel_rfl) FCod.nil))) (fun a=>(a.1,a.2.1,a.2.2.1)) (fun a=>[Am.int a.1,Am.int a.2.1,Am.int a.2.2]) (fun _=>rfl) (fun _=>czID.symm)
abbrev AC:=(Int × Int × Int) × (Int × Int × Int) × Int × ByteArray × Bool × Unit
noncomputable def cCE:Cod Tryd.prog 58 CE:=Cod.struct Tryd.underlying58 (by kernel_rfl) (FCod.cons cID rfl (FCod.cons cID (by kernel_rfl) (FCod.cons cInt (by kernel_rfl) (FCod.cons cStr (by kernel_rfl) (FCod.cons cBool (by kernel_rfl) FCod.nil)))))
 (fun a:AC=>⟨a.1.1,a.1.2.1,a.1.2.2,a.2.1.1,a.2.1.2.1,a.2.1.2.2,a.2.2.1,a.2.2.2.1,a.2.2.2.2.1⟩) Sq.enc (fun a:AC=>rfl) (fun _=>czC.symm)
noncomputable def cCells:Cod Tryd.prog 22 (List CE):=Cod.slice Tryd.underlying22 czCs (by rw [czC]; decide) cCE
theorem cCells_enc (v:List CE):cCells.enc v=[ces v]:=by
 show [AV.sl (Tryd.prog.cellsOf 58) false (v.map Sq.enc)]=[AV.sl 9 false (v.map Sq.enc)]
 rw [czC]
abbrev AMk:=(Int × Int) × Int × (Int × Int × Int) × (Int × Int × Int) × Int × Bool × Unit
noncomputable def cMK:Cod Tryd.prog 47 MK:=Cod.struct Tryd.underlying47 (by kernel_rfl) (FCod.cons cDot rfl (FCod.cons cInt (by kernel_rfl) (FCod.cons cID (by kernel_rfl) (FCod.cons cID (by kernel_rfl) (FCod.cons cInt (by kernel_rfl) (FCod.cons cBool (by kernel_rfl) FCod.nil))))))
 (fun a:AMk=>⟨a.1.1,a.1.2,a.2.1,a.2.2.1.1,a.2.2.1.2.1,a.2.2.1.2.2,a.2.2.2.1.1,a.2.2.2.1.2.1,a.2.2.2.1.2.2,a.2.2.2.2.1,a.2.2.2.2.2.1⟩) enc (fun a:AMk=>rfl) (fun _=>czM.symm)
noncomputable def cMarks:Cod Tryd.prog 23 (List MK):=Cod.slice Tryd.underlying23 czMs (by rw [czM]; decide) cMK
theorem cMarks_enc (v:List MK):cMarks.enc v=[mks v]:=by
 show [AV.sl (Tryd.prog.cellsOf 47) false (v.map enc)]=[AV.sl 11 false (v.map enc)]
 rw [czM]
abbrev AT:=List CE × List MK × Unit
noncomputable def cTE:Cod Tryd.prog 25 TE:=Cod.struct Tryd.underlying25 (by kernel_rfl) (FCod.cons cCells rfl (FCod.cons cMarks (by kernel_rfl) FCod.nil)) (fun a:AT=>⟨a.1,a.2.1⟩) (fun t=>[ces t.cells,mks t.marks]) (fun a:AT=>by
 show [ces a.1,mks a.2.1]=cCells.enc a.1++(cMarks.enc a.2.1++[])
 rw [cCells_enc,cMarks_enc]; rfl) (fun _=>czT.symm)
abbrev AE:=Int × Int × Int × (Int × Int) × (Int × Int × Int) × ByteArray × MK × Unit
noncomputable def cED:Cod Tryd.prog 49 ED:=Cod.struct Tryd.underlying49 (by kernel_rfl) (FCod.cons cInt rfl (FCod.cons cInt (by kernel_rfl) (FCod.cons cInt (by kernel_rfl) (FCod.cons cDot (by kernel_rfl) (FCod.cons cID (by kernel_rfl) (FCod.cons cStr (by kernel_rfl) (FCod.cons cMK (by kernel_rfl) FCod.nil)))))))
 (fun a:AE=>⟨a.1,a.2.1,a.2.2.1,a.2.2.2.1.1,a.2.2.2.1.2,a.2.2.2.2.1.1,a.2.2.2.2.1.2.1,a.2.2.2.2.1.2.2,a.2.2.2.2.2.1,a.2.2.2.2.2.2.1⟩) (fun e=>[Am.int e.kd,Am.int e.tm,Am.int e.n,Am.int e.dv,Am.int e.sq,Am.int e.a,Am.int e.b,Am.int e.c,Am.str e.s]++enc e.m) (fun a:AE=>rfl) (fun _=>czE.symm)
theorem cDot_ok {i:Int × Int} (h:cDot.good i):InR i.1∧InR i.2:=by
 obtain ⟨⟨_,_,_⟩,rfl,f1,f2,_⟩:=h
 exact ⟨f1,f2⟩
theorem cID_ok {i:Int × Int × Int} (h:cID.good i):InR i.1∧InR i.2.1∧InR i.2.2:=by
 obtain ⟨⟨_,_,_,_⟩,rfl,f1,f2,f3,_⟩:=h
 exact ⟨f1,f2,f3⟩
def SzC (l:List CE):Prop:=∀ x∈l,x.vl.size≤9223372036854775807
theorem cCE_ok {c:CE} (h:cCE.good c):OkR c∧c.vl.size≤9223372036854775807∧InR c.tm:=by
 obtain ⟨⟨_,_,_,_,_,_⟩,rfl,f1,f2,f3,f4,_⟩:=h
 exact ⟨⟨cID_ok f1,cID_ok f2⟩,f4,f3⟩
theorem cMK_ok {m:MK} (h:cMK.good m):OkM m:=by
 obtain ⟨⟨_,_,_,_,_,_,_⟩,rfl,f1,f2,f3,f4,f5,_⟩:=h
 have h1:=cDot_ok f1
 have h3:=cID_ok f3
 have h4:=cID_ok f4
 exact ⟨h1.1,h1.2,f2,h3.1,h3.2.1,h3.2.2,h4.1,h4.2.1,h4.2.2,f5⟩
theorem cTE_ok {t:TE} (h:cTE.good t):OkT t∧SzC t.cells∧∀ x∈t.cells,InR x.tm:=by
 obtain ⟨⟨_,_,_⟩,rfl,f1,f2,_⟩:=h
 exact ⟨⟨fun x hx=>(cCE_ok (f1.2 x hx)).1,fun x hx=>cMK_ok (f2.2 x hx)⟩,fun x hx=>(cCE_ok (f1.2 x hx)).2.1,fun x hx=>(cCE_ok (f1.2 x hx)).2.2⟩
theorem cED_ok {e:ED} (h:cED.good e):OkE e:=by
 obtain ⟨⟨_,_,_,_,_,_,_,_⟩,rfl,f1,f2,f3,f4,f5,f6,f7,_⟩:=h
 have h4:=cDot_ok f4
 have h5:=cID_ok f5
 exact ⟨f1,f2,f3,h4.1,h4.2,h5.1,h5.2.1,h5.2.2,cMK_ok f7,f6⟩
section
variable {H:Type} {en:TypeId × Value→H} {W:World} {base:Nat} {v:Value} {d:DataW H} {ps:List MemPlace}
theorem reads_agg {α:Type} {t:TypeId} {fs:Array Field} (c:Cod Tryd.prog t α) (hu:Tryd.prog.underlying t=some (.struct fs)) (hv:Value.okWide Tryd.prog W .any base t v) (h:DataW.Trod en Tryd.prog W 0 (fun _=>true) true t v d ps):∃ a,c.good a∧Rep (view0 W) (.agg (c.enc a)) v:=by
 have hagg:∃ cs,v = .agg cs:=by
  unfold Value.okWide at hv
  rw [hu] at hv
  exact ⟨_,hv.choose_spec.1⟩
 obtain ⟨⟨cs⟩,rfl⟩:=hagg
 obtain ⟨n,hn⟩:=h
 have hn':DataW.trod en Tryd.prog W 0 (fun _=>true) true n t cs=some (d,ps):=hn
 obtain ⟨o,g,hl,hp⟩:=c.rd hn'
 exact ⟨o,g,.agg _ _ hl fun j hj=>.pure _ _ (hp j (by rw [hl]; exact hj)).1⟩
theorem reads_text (hv:Value.okWide Tryd.prog W .any base 25 v) (h:DataW.Trod en Tryd.prog W 0 (fun _=>true) true 25 v d ps):∃ t:TE,(OkT t∧SzC t.cells∧∀ x∈t.cells,InR x.tm)∧Rep (view0 W) (txt t) v:=by
 obtain ⟨a,h1,h2⟩:=reads_agg cTE Tryd.underlying25 hv h
 exact ⟨a,cTE_ok h1,h2⟩
theorem reads_edit (hv:Value.okWide Tryd.prog W .any base 49 v) (h:DataW.Trod en Tryd.prog W 0 (fun _=>true) true 49 v d ps):∃ e:ED,OkE e∧Rep (view0 W) (edt e) v:=by
 obtain ⟨a,h1,h2⟩:=reads_agg cED Tryd.underlying49 hv h
 exact ⟨a,cED_ok h1,h2⟩
end
theorem gT:Tryd.prog.globalNamed "math/bits.deBruijn32tab" = some 0:=by kernel_rfl
theorem tT:(Tryd.prog.globals[0]?).map (·.type)=some 124:=by kernel_rfl
theorem globs {W:World} (h:laidMetH Tryd.prog [("math/bits.deBruijn32tab",Go.Proofs.YteaclamkacmhmaaDoor.Rows.laid_math_bits_deBruijn32tab)] W):∀ g cs,G g=some cs→PRep W (fun _=>False) (.imm cs) (.pointer (some ⟨g,0,none⟩)):=by
 have h:laidMet Tryd.prog [("math/bits.deBruijn32tab",Go.Proofs.YteaclamkacmhmaaDoor.Rows.laid_math_bits_deBruijn32tab)] W:=h
 obtain ⟨_,⟨g',t,cs,fuel,p,q,hg,ht,hv,hd,_,_⟩,_⟩:=h
 obtain rfl:=Option.some.inj (gT.symm.trans hg)
 obtain rfl:=Option.some.inj (tT.symm.trans ht)
 obtain ⟨xs,m,_,hx,hl,hxl,hf⟩:=DataW.trod_array Tryd.underlying124 hd
 have hx1:xs.map (·.1)=tabB.map fun n=>DataW.lit (.int .u8 n):=by
  have:=(Prod.mk.inj hx).1
  exact (DataW.agg.inj this).symm
 have hlen:cs.toList.length=32:=hl.trans (by kernel_rfl)
 have cell:∀ j (hj:j<32),W.cell? ⟨0,j,none⟩=some (.int .u8 (tabB.getD j 0)):=fun j hj=>by
  have h1:=hf j hj
  have hjx:j<xs.length:=by omega
  rw [cz5,Nat.mul_one,List.getElem?_eq_getElem hjx] at h1
  obtain ⟨n,e1,e2,_⟩:=DataW.trod_int Tryd.underlying5 h1
  have hj2:j<cs.toList.length:=by omega
  rw [List.take_one,List.head?_drop,List.getElem?_eq_getElem hj2] at e1
  have e1:cs.toList[j] = .int .u8 n:=by simpa using e1
  have e3:(xs.map (·.1))[j]? = some (.lit (.int .u8 n)):=by rw [List.getElem?_map,List.getElem?_eq_getElem hjx,e2]; rfl
  rw [hx1,List.getElem?_map] at e3
  have hjt:j<tabB.length:=hj
  rw [List.getElem?_eq_getElem hjt] at e3
  have e4:tabB[j]=n:=by simpa using e3
  have:=World.var?_cell gT hv j
  rw [this,List.getD_eq_getElem?_getD,List.getElem?_eq_getElem hjt]
  have h5:cs[j]? = some cs.toList[j]:=by rw [← Array.getElem?_toList,List.getElem?_eq_getElem hj2]
  rw [h5,e1,← e4]
  rfl
 intro g cs' hg'
 unfold G at hg'
 split at hg'
 · rename_i e
   subst e
   cases hg'
   exact .imm _ _ (fun j=>.int .u8 (tabB.getD j 0)) rfl (fun _ h=>h) (fun j hj=>by rw [Nat.zero_add]; exact cell j (by simpa [tab,tabB] using hj)) (fun j hj=>by
    have hj:j<32:=by simpa [tab,tabB] using hj
    have:tab.getD j .dead = .lit (.int .u8 (tabB.getD j 0)):=by
     unfold tab
     rw [List.getD_eq_getElem?_getD,List.getElem?_map,List.getD_eq_getElem?_getD,List.getElem?_eq_getElem (show j<tabB.length from hj)]
     rfl
    rw [this]
    exact .lit _)
 · cases hg'
theorem door_met (os:Os) (args:Array Value):laidMetH Tryd.prog [("math/bits.deBruijn32tab",Go.Proofs.YteaclamkacmhmaaDoor.Rows.laid_math_bits_deBruijn32tab)] ((World.doorLaid Tryd.prog 600 os).forCall (fun _ _=>0) ⟨#[],args,[]⟩).memory :=
 laidMetH_of_parts3 (fuel:=8) (laidMet_of_run' 8 (by kernel_rfl) (by kernel_rfl)) (by kernel_rfl) (by kernel_rfl)
end Go.Tx


namespace Go.Tx
open Go Go.Am Go.Proofs Go.Seat
open Go.Sq (CE cel ces ida idv pid fX fiO OkRs OkR chkE insE insV formsB Ok Ids lvl all clash More ers goneAt)
def tyL (dv sq tm:Int) (s:ByteArray):Nat→Nat→Sq.ID→List CE
 | 0,_,_=>[]
 | n+1,k,i=>tyC dv sq tm k i s::tyL dv sq tm s n (k+1) (dv,sq,(k:Int))
theorem tyL_dot {dv sq tm:Int} {s:ByteArray}:∀ {n k:Nat} {i:Sq.ID},∀ x∈tyL dv sq tm s n k i,x.dv=dv∧x.sq=sq∧x.tm=tm∧x.gn=false
 | 0,_,_,x,hx=>by cases hx
 | n+1,k,i,x,hx=>by
  rcases List.mem_cons.1 hx with rfl | hx
  · exact ⟨rfl,rfl,rfl,rfl⟩
  · exact tyL_dot x hx
theorem ins_iff {l:List CE} {c:CE} (hg:c.gn=false):insE l c=0↔chkE l=0∧formsB (l++[c])=true:=by
 rcases Sq.ins_cases l c with ⟨h1,h2,h3,_⟩ | ⟨h1,_⟩
 · exact ⟨fun _=>⟨h2,h3⟩,fun _=>h1⟩
 · refine ⟨fun h=>absurd h h1,fun ⟨h2,h3⟩=>?_⟩
   unfold Sq.insE Sq.ordE
   simp [h2,hg,h3]
theorem ins_all {l:List CE} {c:CE} (h:insE l c=0):insV l c=all (l++[c]):=by
 rcases Sq.ins_cases l c with ⟨_,_,_,h4⟩ | ⟨h1,_⟩
 · exact h4
 · exact absurd h h1
theorem lvl_up {l m:List CE} (h:∀ x∈l,x∈m):∀ {n:Nat} {c:CE},lvl l n c→lvl m n c
 | 0,_,k=>k
 | n+1,_,⟨p,hp,e,k⟩=>⟨p,h p hp,e,lvl_up h k⟩
theorem forms_up {l l':List CE} {c:CE} (h:More l c) (h':formsB l'=true) (hs:∀ x∈l,x∈l') (hc:∀ y∈l',y∉l→clash c y=false):formsB (l'++[c])=true:=by
 obtain ⟨o1,o2⟩:=Sq.forms_iff.1 h'
 have hm:=h.okm
 have cl:∀ y∈l',clash c y=false:=fun y hy=>by
  by_cases hyl:y∈l
  · exact (List.pairwise_append.1 hm.apart).2.2 y hyl c (by simp)
  · exact hc y hy hyl
 refine Sq.forms_iff.2 ⟨⟨fun x hx=>?_,?_⟩,fun x hx=>?_⟩
 · rcases List.mem_append.1 hx with hx | hx
   · exact o1.valid x hx
   · exact hm.valid x (List.mem_append_right _ hx)
 · refine List.pairwise_append.2 ⟨o1.apart,List.pairwise_singleton _ _,fun a ha b hb=>?_⟩
   rw [List.mem_singleton.1 hb]
   exact cl a ha
 · rcases List.mem_append.1 hx with hx | hx
   · obtain ⟨n,hn⟩:=o2 x hx
     exact ⟨n,lvl_up (fun y hy=>List.mem_append_left _ hy) hn⟩
   · rw [List.mem_singleton.1 hx]
     rcases h.parent with e | ⟨p,hp,e⟩
     · exact ⟨0,e⟩
     · obtain ⟨n,hn⟩:=o2 p (hs p hp)
       exact ⟨n+1,p,List.mem_append_left _ (hs p hp),e,lvl_up (fun y hy=>List.mem_append_left _ hy) hn⟩
theorem ty_up {dv sq tm:Int} {s:ByteArray}:∀ {n k:Nat} {i:Sq.ID} {l l':List CE},chkE l=0→(tyN dv sq tm s n k i l).2=0→chkE l'=0→(∀ x∈l,x∈l')→(∀ c∈tyL dv sq tm s n k i,∀ y∈l',y∉l→clash c y=false) →
 tyN dv sq tm s n k i l'=(all (l'++tyL dv sq tm s n k i),0)∧formsB (l'++tyL dv sq tm s n k i)=true
 | 0,k,i,l,l',_,_,h',_,_=>by
  obtain ⟨f1,f2⟩:=Sq.chk_iff.1 h'
  refine ⟨?_,by simpa [tyL] using f1⟩
  simp [tyN,tyL,f2]
 | n+1,k,i,l,l',h,ht,h',hs,hc=>by
  rw [tyN] at ht
  split at ht
  · rename_i hne
    exact absurd ht hne
  · rename_i h0
    have h0:insE l (tyC dv sq tm k i s)=0:=by simpa using h0
    obtain ⟨_,f1⟩:=(ins_iff (c:=tyC dv sq tm k i s) rfl).1 h0
    have hM:More l (tyC dv sq tm k i s):=⟨(Sq.chk_iff.1 h).1,f1⟩
    have f2:=forms_up hM (Sq.chk_iff.1 h').1 hs (hc _ (List.mem_cons_self ..))
    have h1:=(ins_iff (l:=l') (c:=tyC dv sq tm k i s) rfl).2 ⟨h',f2⟩
    rw [ins_all h0] at ht
    have mem1:∀ {x},x∈all (l++[tyC dv sq tm k i s])↔x∈l∨x=tyC dv sq tm k i s:=fun {x}=>by rw [(Sq.all_is f1).mem_iff]; simp
    have mem2:∀ {x},x∈all (l'++[tyC dv sq tm k i s])↔x∈l'∨x=tyC dv sq tm k i s:=fun {x}=>by rw [(Sq.all_is f2).mem_iff]; simp
    obtain ⟨a1,a2⟩:=ty_up (l':=all (l'++[tyC dv sq tm k i s])) (Sq.ord_ord f1).2.2 ht (Sq.ord_ord f2).2.2 (fun x hx=>mem2.2 ((mem1.1 hx).imp (hs x) id)) (fun c hcm y hy hn=>by
     rcases mem2.1 hy with hy | hy
     · exact hc c (List.mem_cons_of_mem _ hcm) y hy fun hyl=>hn (mem1.2 (.inl hyl))
     · exact absurd (mem1.2 (.inr hy)) hn)
    have hp:(all (l'++[tyC dv sq tm k i s])++tyL dv sq tm s n (k+1) (dv,sq,(k:Int))).Perm (l'++tyL dv sq tm s (n+1) k i):=by
     have:=(Sq.all_is f2).append_right (tyL dv sq tm s n (k+1) (dv,sq,(k:Int)))
     rw [List.append_assoc] at this
     exact this
    have f3:formsB (l'++tyL dv sq tm s (n+1) k i)=true:=by rw [← Sq.forms_perm hp]; exact a2
    refine ⟨?_,f3⟩
    rw [tyN,if_neg (by simpa using h1),ins_all h1,a1,Sq.all_perm (Sq.forms_iff.1 a2).1 hp]
theorem ty_is {dv sq tm:Int} {s:ByteArray} {n k:Nat} {i:Sq.ID} {l:List CE} (h:chkE l=0) (ht:(tyN dv sq tm s n k i l).2=0):tyN dv sq tm s n k i l=(all (l++tyL dv sq tm s n k i),0)∧formsB (l++tyL dv sq tm s n k i)=true :=
 ty_up h ht h (fun _ hx=>hx) fun _ _ _ hy hn=>absurd hy hn
theorem ty_map {g:CE→CE} (hg:Sq.Alike g) {dv sq tm:Int} {s:ByteArray}:∀ {n k:Nat} {i:Sq.ID} {l:List CE},chkE l=0→(tyN dv sq tm s n k i l).2=0→(∀ c∈tyL dv sq tm s n k i,g c=c)→tyN dv sq tm s n k i (l.map g)=((tyN dv sq tm s n k i l).1.map g,0)
 | 0,k,i,l,_,_,_=>rfl
 | n+1,k,i,l,h,ht,hc=>by
  rw [tyN] at ht
  split at ht
  · rename_i hne
    exact absurd ht hne
  · rename_i h0
    have h0:insE l (tyC dv sq tm k i s)=0:=by simpa using h0
    obtain ⟨_,f1⟩:=(ins_iff (c:=tyC dv sq tm k i s) rfl).1 h0
    have hgc:g (tyC dv sq tm k i s)=tyC dv sq tm k i s:=hc _ (List.mem_cons_self ..)
    have e:l.map g++[tyC dv sq tm k i s]=(l++[tyC dv sq tm k i s]).map g:=by rw [List.map_append,List.map_singleton,hgc]
    have h1:insE (l.map g) (tyC dv sq tm k i s)=0:=(ins_iff rfl).2 ⟨hg.chk h,by rw [e,hg.forms]; exact f1⟩
    have e2:insV (l.map g) (tyC dv sq tm k i s)=(insV l (tyC dv sq tm k i s)).map g:=by rw [ins_all h1,ins_all h0,e,hg.all (Sq.forms_iff.1 f1).1.ids]
    rw [tyN,if_neg (by simpa using h1),e2,ty_map hg (l:=insV l (tyC dv sq tm k i s)) (by rw [ins_all h0]; exact (Sq.ord_ord f1).2.2) ht fun c hcm=>hc c (List.mem_cons_of_mem _ hcm)]
    rw [tyN,if_neg (by simpa using h0)]
def cutF (a b c:Int):Nat→Nat→CE→CE
 | 0,_,x=>x
 | n+1,k,x=>cutF a b c n (k+1) (ers (a,b,wr c k) x)
theorem cutF_alike {a b c:Int}:∀ {n k:Nat},Sq.Alike (cutF a b c n k)
 | 0,_=>⟨fun _=>rfl,fun _=>rfl,fun _=>rfl,fun _=>rfl,fun _=>rfl,fun _=>rfl,fun _=>rfl,fun _=>rfl⟩
 | n+1,k=>by
  have h:=Sq.ers_alike (a,b,wr c k)
  have k:=cutF_alike (a:=a) (b:=b) (c:=c) (n:=n) (k:=k+1)
  constructor<;>intro x<;>simp only [cutF]
  · rw [k.dv,h.dv]
  · rw [k.sq,h.sq]
  · rw [k.at',h.at']
  · rw [k.ad,h.ad]
  · rw [k.as',h.as']
  · rw [k.aa,h.aa]
  · rw [k.tm,h.tm]
  · rw [k.vl,h.vl]
theorem cutF_gn {a b c:Int}:∀ {n k:Nat} {x:CE},(cutF a b c n k x).gn=true↔x.gn=true∨∃ j,j<n∧x.id=(a,b,wr c (k+j))
 | 0,k,x=>by simp [cutF]
 | n+1,k,x=>by
  rw [cutF,cutF_gn,(Sq.ers_alike _).id]
  have h1:(ers (a,b,wr c k) x).gn=true↔x.gn=true∨x.id=(a,b,wr c k):=by
   by_cases h:x.id=(a,b,wr c k)
   · rw [Sq.ers_yes h]; simp [h]
   · rw [Sq.ers_no h]; simp [h]
  rw [h1]
  constructor
  · rintro ((h | h) | ⟨j,hj,h⟩)
    · exact .inl h
    · exact .inr ⟨0,by omega,h⟩
    · exact .inr ⟨j+1,by omega,by rw [h,show k+1+j=k+(j+1) by omega]⟩
  · rintro (h | ⟨j,hj,h⟩)
    · exact .inl (.inl h)
    · cases j with
      | zero=>exact .inl (.inr h)
      | succ j=>exact .inr ⟨j,by omega,by rw [h,show k+1+j=k+(j+1) by omega]⟩
theorem ce_ext {x y:CE} (h1:x.dv=y.dv) (h2:x.sq=y.sq) (h3:x.at'=y.at') (h4:x.ad=y.ad) (h5:x.as'=y.as') (h6:x.aa=y.aa) (h7:x.tm=y.tm) (h8:x.vl=y.vl) (h9:x.gn=y.gn):x=y:=by
 cases x; cases y; simp_all
theorem Alike_ext {g h:CE→CE} (hg:Sq.Alike g) (hh:Sq.Alike h) {x:CE} (e:(g x).gn=(h x).gn):g x=h x :=
 ce_ext ((hg.dv x).trans (hh.dv x).symm) ((hg.sq x).trans (hh.sq x).symm) ((hg.at' x).trans (hh.at' x).symm) ((hg.ad x).trans (hh.ad x).symm) ((hg.as' x).trans (hh.as' x).symm) ((hg.aa x).trans (hh.aa x).symm) ((hg.tm x).trans (hh.tm x).symm) ((hg.vl x).trans (hh.vl x).symm) e
theorem alike_id:Sq.Alike (fun x=>x):=⟨fun _=>rfl,fun _=>rfl,fun _=>rfl,fun _=>rfl,fun _=>rfl,fun _=>rfl,fun _=>rfl,fun _=>rfl⟩
theorem alike_comp {g h:CE→CE} (hg:Sq.Alike g) (hh:Sq.Alike h):Sq.Alike (fun x=>g (h x)) :=
 ⟨fun x=>(hg.dv _).trans (hh.dv x),fun x=>(hg.sq _).trans (hh.sq x),fun x=>(hg.at' _).trans (hh.at' x),fun x=>(hg.ad _).trans (hh.ad x),fun x=>(hg.as' _).trans (hh.as' x),fun x=>(hg.aa _).trans (hh.aa x),fun x=>(hg.tm _).trans (hh.tm x),fun x=>(hg.vl _).trans (hh.vl x)⟩
theorem cutF_no {a b c:Int} {n k:Nat} {x:CE} (h:∀ j,j<n→x.id≠(a,b,wr c (k+j))):cutF a b c n k x=x :=
 Alike_ext cutF_alike alike_id (by
  rw [Bool.eq_iff_iff,cutF_gn]
  exact ⟨fun k=>k.elim id fun ⟨j,hj,e⟩=>absurd e (h j hj),.inl⟩)
def CutOk (a b c:Int) (n k:Nat) (l:List CE):Prop:=∀ j,j<n→∃ x∈l,x.id=(a,b,wr c (k+j))
theorem cut_is {a b c:Int}:∀ {n k:Nat} {l:List CE},Ids l→(CutOk a b c n k l→cutN a b c n k l=some (l.map (cutF a b c n k)))∧∀ {r},cutN a b c n k l=some r→CutOk a b c n k l
 | 0,k,l,_=>⟨fun _=>by simp [cutN,cutF],fun _ j hj=>absurd hj (by omega)⟩
 | n+1,k,l,hl=>by
  have ha:=Sq.ers_alike (a,b,wr c k)
  have hl2:Ids (l.map (ers (a,b,wr c k))):=List.pairwise_map.2 (hl.imp fun {x y} q=>by rw [ha.id,ha.id]; exact q)
  obtain ⟨i1,i2⟩:=cut_is (a:=a) (b:=b) (c:=c) (n:=n) (k:=k+1) hl2
  constructor
  · intro h
    obtain ⟨x,hx,e⟩:=h 0 (by omega)
    obtain ⟨m,hm⟩:=Sq.fX_mem hx e
    have hm:fX (pid a b (wr c k)) l=some m:=hm
    rw [cutN,hm]
    show cutN a b c n (k+1) (goneAt l m)=_
    rw [Sq.goneAt_map hl hm,i1 fun j hj=>?_,List.map_map]
    · rfl
    · obtain ⟨y,hy,e⟩:=h (j+1) (by omega)
      exact ⟨_,List.mem_map.2 ⟨y,hy,rfl⟩,by rw [ha.id,e,show k+1+j=k+(j+1) by omega]⟩
  · intro r h j hj
    rw [cutN] at h
    split at h
    · rename_i m hm
      rw [Sq.goneAt_map hl hm] at h
      cases j with
      | zero =>
       obtain ⟨x,hx,e⟩:=Sq.fX_some hm
       exact ⟨x,List.mem_of_getElem? hx,e⟩
      | succ j =>
       obtain ⟨y,hy,e⟩:=i2 h j (by omega)
       obtain ⟨x,hx,rfl⟩:=List.mem_map.1 hy
       exact ⟨x,hx,by rw [ha.id] at e; rw [e,show k+1+j=k+(j+1) by omega]⟩
    · cases h
def addM (m:MK) (v:List MK):List MK:=v.take (plcM m v)++[m]++v.drop (plcM m v)
theorem addM_perm (m:MK) (v:List MK):(addM m v).Perm (m::v):=by
 unfold addM
 have:(v.take (plcM m v)++[m]++v.drop (plcM m v)).Perm (m::(v.take (plcM m v)++v.drop (plcM m v))):=by
  rw [List.append_assoc]
  exact List.perm_middle
 rw [List.take_append_drop] at this
 exact this
theorem less_or {a b:MK} (h:a.dot≠b.dot):lessM a b=true∨lessM b a=true:=by
 rw [less_iff,less_iff]
 simp only [MK.dot,ne_eq,Prod.mk.injEq,not_and] at h
 by_cases e:a.dv=b.dv
 · have:=h e; omega
 · omega
theorem addM_sorted {m:MK} {v:List MK} (h:v.Pairwise fun a c=>lessM a c=true) (hd:∀ a∈v,a.dot≠m.dot):(addM m v).Pairwise fun a c=>lessM a c=true:=by
 have h1:∀ a∈v.take (plcM m v),lessM a m=true:=fun a ha=>by
  obtain ⟨j,hj,rfl⟩:=List.getElem_of_mem ha
  rw [List.length_take] at hj
  rw [List.getElem_take]
  exact (plcM_lt h (by omega)).2 (by omega)
 have h2:∀ a∈v.drop (plcM m v),lessM m a=true:=fun a ha=>by
  obtain ⟨j,hj,rfl⟩:=List.getElem_of_mem ha
  rw [List.length_drop] at hj
  rw [List.getElem_drop]
  have hlt:plcM m v+j<v.length:=by omega
  rcases less_or (hd _ (List.getElem_mem hlt)) with k | k
  · have:=(plcM_lt h hlt).1 k; omega
  · exact k
 have hs:=h
 rw [← List.take_append_drop (plcM m v) v] at hs
 obtain ⟨s1,s2,s3⟩:=List.pairwise_append.1 hs
 unfold addM
 refine List.pairwise_append.2 ⟨List.pairwise_append.2 ⟨s1,List.pairwise_singleton _ _,fun a ha b hb=>?_⟩,s2,fun a ha b hb=>?_⟩
 · rw [List.mem_singleton.1 hb]; exact h1 a ha
 · rcases List.mem_append.1 ha with ha | ha
   · exact s3 a ha b hb
   · rw [List.mem_singleton.1 ha]; exact h2 b hb
theorem addM_ok {l:List CE} {m:MK} {v:List MK} (h:OkV l v) (hm:isMk l m=true) (hd:∀ a∈v,a.dot≠m.dot):OkV l (addM m v):=by
 refine ⟨fun a ha=>?_,addM_sorted h.sorted hd,?_⟩
 · rcases List.mem_cons.1 ((addM_perm m v).mem_iff.1 ha) with rfl | ha
   · exact hm
   · exact h.isM a ha
 · have:(m::v).Pairwise fun a b=>a.dot≠b.dot:=List.pairwise_cons.2 ⟨fun a ha e=>hd a ha e.symm,h.dots⟩
   exact (List.Perm.pairwise_iff (fun {a b} h e=>h e.symm) (addM_perm m v)).2 this
theorem sorted_one {v w:List MK} (hp:v.Perm w) (h:v.Pairwise fun a c=>lessM a c=true) (k:w.Pairwise fun a c=>lessM a c=true):v=w :=
 hp.eq_of_pairwise (le:=fun a b=>lessM a b=true) (fun a b _ _ k1 k2=>by rw [less_asymm k1] at k2; cases k2) h k
theorem addM_comm {m q:MK} {v:List MK} (h:v.Pairwise fun a c=>lessM a c=true) (hm:∀ a∈v,a.dot≠m.dot) (hq:∀ a∈v,a.dot≠q.dot) (hd:m.dot≠q.dot):addM m (addM q v)=addM q (addM m v):=by
 refine sorted_one ?_ ?_ ?_
 · refine (addM_perm _ _).trans (((addM_perm _ _).cons _).trans ((List.Perm.swap _ _ _).trans (((addM_perm _ _).symm.cons _).trans (addM_perm _ _).symm)))
 · exact addM_sorted (addM_sorted h hq) fun a ha=>by
    rcases List.mem_cons.1 ((addM_perm q v).mem_iff.1 ha) with rfl | ha
    · exact fun e=>hd e.symm
    · exact hm a ha
 · exact addM_sorted (addM_sorted h hm) fun a ha=>by
    rcases List.mem_cons.1 ((addM_perm m v).mem_iff.1 ha) with rfl | ha
    · exact hd
    · exact hq a ha
theorem isMk_iff {l:List CE} {m:MK}:isMk l m=true↔(∃ x∈l,x.id=m.frm)∧(∃ x∈l,x.id=m.upto)∧(Vec.isDotB (m.dv,m.sq) && decide (m.tm≥1) && decide (m.tm≤1099511627776) && decide (m.st≥0) && decide (m.st<16))=true:=by
 have key:∀ i j k:Int,(fX (pid i j k) l).isSome=true↔∃ x∈l,x.id=(i,j,k):=fun i j k=>by
  constructor
  · intro h
    obtain ⟨m,hm⟩:=Option.isSome_iff_exists.1 h
    obtain ⟨x,hx,e⟩:=Sq.fX_some hm
    exact ⟨x,List.mem_of_getElem? hx,e⟩
  · rintro ⟨x,hx,e⟩
    obtain ⟨m,hm⟩:=Sq.fX_mem hx e
    rw [hm]; rfl
 unfold isMk MK.frm MK.upto
 rw [← key,← key]
 simp only [Bool.and_eq_true]
 constructor
 · rintro ⟨⟨⟨⟨⟨⟨h1,h2⟩,h3⟩,h4⟩,h5⟩,h6⟩,h7⟩
   exact ⟨h1,h2,⟨⟨⟨h3,h4⟩,h5⟩,h6⟩,h7⟩
 · rintro ⟨h1,h2,⟨⟨⟨h3,h4⟩,h5⟩,h6⟩,h7⟩
   exact ⟨⟨⟨⟨⟨⟨h1,h2⟩,h3⟩,h4⟩,h5⟩,h6⟩,h7⟩
theorem isMk_up {l l':List CE} {m:MK} (h:∀ x∈l,∃ y∈l',y.id=x.id) (hm:isMk l m=true):isMk l' m=true:=by
 obtain ⟨⟨x,hx,e⟩,⟨x',hx',e'⟩,k⟩:=isMk_iff.1 hm
 obtain ⟨y,hy,e2⟩:=h x hx
 obtain ⟨y',hy',e2'⟩:=h x' hx'
 exact isMk_iff.2 ⟨⟨y,hy,e2.trans e⟩,⟨y',hy',e2'.trans e'⟩,k⟩
theorem OkV.up {l l':List CE} {v:List MK} (h:OkV l v) (hs:∀ x∈l,∃ y∈l',y.id=x.id):OkV l' v:=⟨fun m hm=>isMk_up hs (h.isM m hm),h.sorted,h.dots⟩
end Go.Tx


namespace Go.Tx
open Go Go.Am Go.Proofs Go.Seat
open Go.Sq (CE cel ces ida idv pid fX fiO OkRs OkR chkE insE insV formsB Ok Ids lvl all clash More ers goneAt)
def TL (e:ED):List CE:=tyL e.dv e.sq e.tm e.s e.s.size 0 (e.a,e.b,e.c)
def CF (e:ED):CE→CE:=cutF e.a e.b e.c e.n.toNat 0
def TyOk (t:TE) (e:ED):Prop:=(1≤e.s.size∧e.s.size≤64)∧(tyN e.dv e.sq e.tm e.s e.s.size 0 (e.a,e.b,e.c) t.cells).2=0
def CuOk (t:TE) (e:ED):Prop:=(1≤e.n∧e.n≤64)∧CutOk e.a e.b e.c e.n.toNat 0 t.cells
def AdOk (t:TE) (e:ED):Prop:=isMk t.cells e.m=true∧∀ a∈t.marks,a.dot≠e.m.dot
theorem CF_alike (e:ED):Sq.Alike (CF e):=cutF_alike
theorem Val.chk {t:TE} (h:Val t):chkT t=0:=chkT_iff.2 h
theorem Val.ids {t:TE} (h:Val t):Ids t.cells:=(Sq.forms_iff.1 (Sq.chk_iff.1 h.cells).1).1.ids
theorem typ_mk {t:TE} {e:ED} (hV:Val t) (h:TyOk t e):typR t e.dv e.sq e.tm (e.a,e.b,e.c) e.s=(⟨(tyN e.dv e.sq e.tm e.s e.s.size 0 (e.a,e.b,e.c) t.cells).1,t.marks⟩,0):=by
 obtain ⟨⟨h1,h2⟩,h3⟩:=h
 unfold typR
 rw [if_neg (by simpa using hV.chk),if_neg (by omega),if_pos h3]
theorem cut_mk {t:TE} {e:ED} (hV:Val t) (h:CuOk t e):cutR t (e.a,e.b,e.c) e.n=(⟨t.cells.map (CF e),t.marks⟩,0):=by
 obtain ⟨⟨h1,h2⟩,h3⟩:=h
 unfold cutR
 rw [if_neg (by simpa using hV.chk),if_neg (by omega),(cut_is hV.ids).1 h3]
 rfl
theorem add_mk {t:TE} {e:ED} (hV:Val t) (h:AdOk t e):addR t e.m=(⟨t.cells,addM e.m t.marks⟩,0):=by
 obtain ⟨h1,h2⟩:=h
 unfold addR
 rw [if_neg (by simpa using hV.chk),if_neg (by rw [h1]; decide),if_neg]
 · rfl
 · intro hc
   obtain ⟨a,ha,e⟩:=List.any_eq_true.1 hc
   exact h2 a ha (of_decide_eq_true e)
theorem ed_inv {t:TE} {e:ED} (h:(edR t e).2=0):Val t∧(e.kd=0∧TyOk t e∧edR t e=(⟨all (t.cells++TL e),t.marks⟩,0)∨e.kd≠0∧e.kd=1∧CuOk t e∧edR t e=(⟨t.cells.map (CF e),t.marks⟩,0)∨e.kd≠0∧e.kd≠1∧AdOk t e∧edR t e=(⟨t.cells,addM e.m t.marks⟩,0)):=by
 have hv:chkT t=0:=by
  unfold edR at h
  split at h
  · unfold typR at h
    split at h
    · rename_i hc; exact absurd h hc
    · rename_i hc; simpa using hc
  · split at h
    · unfold cutR at h
      split at h
      · rename_i hc; exact absurd h hc
      · rename_i hc; simpa using hc
    · unfold addR at h
      split at h
      · rename_i hc; exact absurd h hc
      · rename_i hc; simpa using hc
 have hV:=chkT_iff.1 hv
 refine ⟨hV,?_⟩
 by_cases h0:e.kd=0
 · have e1:edR t e=typR t e.dv e.sq e.tm (e.a,e.b,e.c) e.s:=by unfold edR; rw [if_pos h0]
   rw [e1] at h ⊢
   have hT:TyOk t e:=by
    unfold typR at h
    rw [if_neg (by simpa using hv)] at h
    split at h
    · cases h
    · rename_i hs
      split at h
      · rename_i ht; exact ⟨by omega,ht⟩
      · rename_i ht; exact absurd h ht
   refine .inl ⟨h0,hT,?_⟩
   rw [typ_mk hV hT,(ty_is hV.cells hT.2).1]
   rfl
 · by_cases h1:e.kd=1
   · have e1:edR t e=cutR t (e.a,e.b,e.c) e.n:=by unfold edR; rw [if_neg h0,if_pos h1]
     rw [e1] at h ⊢
     have hC:CuOk t e:=by
      unfold cutR at h
      rw [if_neg (by simpa using hv)] at h
      split at h
      · cases h
      · rename_i hs
        split at h
        · rename_i hr; exact ⟨by omega,(cut_is hV.ids).2 hr⟩
        · cases h
     exact .inr (.inl ⟨h0,h1,hC,cut_mk hV hC⟩)
   · have e1:edR t e=addR t e.m:=by unfold edR; rw [if_neg h0,if_neg h1]
     rw [e1] at h ⊢
     have hA:AdOk t e:=by
      unfold addR at h
      rw [if_neg (by simpa using hv)] at h
      split at h
      · cases h
      · rename_i hs
        split at h
        · cases h
        · rename_i ha
          refine ⟨by simpa using hs,fun a hm e=>ha (List.any_eq_true.2 ⟨a,hm,decide_eq_true e⟩)⟩
     exact .inr (.inr ⟨h0,h1,hA,add_mk hV hA⟩)
theorem ed_ty {t:TE} {e:ED} (h0:e.kd=0) (hV:Val t) (h:TyOk t e):edR t e=(⟨(tyN e.dv e.sq e.tm e.s e.s.size 0 (e.a,e.b,e.c) t.cells).1,t.marks⟩,0):=by
 unfold edR; rw [if_pos h0]; exact typ_mk hV h
theorem ed_cu {t:TE} {e:ED} (h0:e.kd≠0) (h1:e.kd=1) (hV:Val t) (h:CuOk t e):edR t e=(⟨t.cells.map (CF e),t.marks⟩,0):=by
 unfold edR; rw [if_neg h0,if_pos h1]; exact cut_mk hV h
theorem ed_ad {t:TE} {e:ED} (h0:e.kd≠0) (h1:e.kd≠1) (hV:Val t) (h:AdOk t e):edR t e=(⟨t.cells,addM e.m t.marks⟩,0):=by
 unfold edR; rw [if_neg h0,if_neg h1]; exact add_mk hV h
theorem tyL_one {dv sq tm:Int} {s:ByteArray}:∀ {n k:Nat} {i:Sq.ID},k+n=s.size→∀ x∈tyL dv sq tm s n k i,x.vl.size=1
 | 0,_,_,_,x,hx=>by cases hx
 | n+1,k,i,h,x,hx=>by
  rcases List.mem_cons.1 hx with rfl | hx
  · show (s.extract k (k+1)).size=1
    rw [ByteArray.size_extract]
    omega
  · exact tyL_one (by omega) x hx
theorem val_ty {t:TE} {e:ED} (hV:Val t) (h:TyOk t e):Val ⟨all (t.cells++TL e),t.marks⟩∧formsB (t.cells++TL e)=true:=by
 obtain ⟨a1,a2⟩:=ty_is hV.cells h.2
 refine ⟨⟨(Sq.ord_ord a2).2.2,fun c hc=>?_,hV.marks.up fun x hx=>⟨x,(Sq.all_is a2).mem_iff.2 (List.mem_append_left _ hx),rfl⟩⟩,a2⟩
 rcases List.mem_append.1 ((Sq.all_is a2).mem_iff.1 hc) with hc | hc
 · exact hV.one c hc
 · exact tyL_one (by omega) c hc
theorem val_map {t:TE} {g:CE→CE} (hg:Sq.Alike g) (hV:Val t):Val ⟨t.cells.map g,t.marks⟩:=by
 refine ⟨hg.chk hV.cells,fun c hc=>?_,hV.marks.up fun x hx=>⟨g x,List.mem_map.2 ⟨x,hx,rfl⟩,hg.id x⟩⟩
 obtain ⟨x,hx,rfl⟩:=List.mem_map.1 hc
 rw [hg.vl]; exact hV.one x hx
theorem val_ad {t:TE} {e:ED} (hV:Val t) (h:AdOk t e):Val ⟨t.cells,addM e.m t.marks⟩:=⟨hV.cells,hV.one,addM_ok hV.marks h.1 h.2⟩
theorem ed_val {t:TE} {e:ED} (h:(edR t e).2=0):Val (edR t e).1:=by
 obtain ⟨hV,⟨_,h1,e1⟩ | ⟨_,_,h1,e1⟩ | ⟨_,_,h1,e1⟩⟩:=ed_inv h
 · rw [e1]; exact (val_ty hV h1).1
 · rw [e1]; exact val_map cutF_alike hV
 · rw [e1]; exact val_ad hV h1
theorem clash_dot {x y:CE} (h:¬ (x.dv=y.dv∧x.sq=y.sq)):clash x y=false:=by
 unfold Sq.clash
 by_cases h1:x.dv=y.dv
 · have h2:¬ x.sq=y.sq:=fun e=>h ⟨h1,e⟩
   simp [h1,h2]
 · simp [h1]
theorem cut_fix {t:TE} {e p:ED} (hf:formsB (t.cells++TL e)=true) (h:CuOk t p):∀ c∈TL e,CF p c=c:=fun c hc=>cutF_no fun j hj hid=>by
 obtain ⟨x,hx,e⟩:=h.2 j hj
 exact (List.pairwise_append.1 (Sq.forms_iff.1 hf).1.ids).2.2 x hx c hc (e.trans hid.symm)
theorem CutOk.up {a b c:Int} {n k:Nat} {l l':List CE} (h:CutOk a b c n k l) (hs:∀ x∈l,∃ y∈l',y.id=x.id):CutOk a b c n k l':=fun j hj=>by
 obtain ⟨x,hx,e⟩:=h j hj
 obtain ⟨y,hy,e'⟩:=hs x hx
 exact ⟨y,hy,e'.trans e⟩
theorem com_tc {t:TE} {o p:ED} (hV:Val t) (h0:o.kd=0) (k0:p.kd≠0) (k1:p.kd=1) (ho:TyOk t o) (hp:CuOk t p):∃ z,edR ⟨all (t.cells++TL o),t.marks⟩ p=(z,0)∧edR ⟨t.cells.map (CF p),t.marks⟩ o=(z,0):=by
 obtain ⟨v1,f1⟩:=val_ty hV ho
 have hp':CuOk ⟨all (t.cells++TL o),t.marks⟩ p:=⟨hp.1,hp.2.up fun x hx=>⟨x,(Sq.all_is f1).mem_iff.2 (List.mem_append_left _ hx),rfl⟩⟩
 have key:=ty_map (g:=CF p) cutF_alike hV.cells ho.2 (cut_fix f1 hp)
 refine ⟨_,ed_cu k0 k1 v1 hp',?_⟩
 rw [ed_ty h0 (val_map (CF_alike p) hV) ⟨ho.1,by show (tyN _ _ _ _ _ _ _ (t.cells.map (CF p))).2=0; rw [key]⟩]
 show (TE.mk (tyN _ _ _ _ _ _ _ (t.cells.map (CF p))).1 t.marks,(0:Int))=_
 rw [key,(ty_is hV.cells ho.2).1]
 rfl
theorem com_ta {t:TE} {o p:ED} (hV:Val t) (h0:o.kd=0) (k0:p.kd≠0) (k1:p.kd≠1) (ho:TyOk t o) (hp:AdOk t p):∃ z,edR ⟨all (t.cells++TL o),t.marks⟩ p=(z,0)∧edR ⟨t.cells,addM p.m t.marks⟩ o=(z,0):=by
 obtain ⟨v1,f1⟩:=val_ty hV ho
 refine ⟨_,ed_ad k0 k1 v1 ⟨isMk_up (fun x hx=>⟨x,(Sq.all_is f1).mem_iff.2 (List.mem_append_left _ hx),rfl⟩) hp.1,hp.2⟩,?_⟩
 rw [ed_ty h0 (val_ad hV hp) ho]
 show (TE.mk (tyN _ _ _ _ _ _ _ t.cells).1 _,(0:Int))=_
 rw [(ty_is hV.cells ho.2).1]
 rfl
theorem com_ca {t:TE} {o p:ED} (hV:Val t) (h0:o.kd≠0) (h1:o.kd=1) (k0:p.kd≠0) (k1:p.kd≠1) (ho:CuOk t o) (hp:AdOk t p):∃ z,edR ⟨t.cells.map (CF o),t.marks⟩ p=(z,0)∧edR ⟨t.cells,addM p.m t.marks⟩ o=(z,0) :=
 ⟨_,ed_ad k0 k1 (val_map cutF_alike hV) ⟨isMk_up (fun x hx=>⟨CF o x,List.mem_map.2 ⟨x,hx,rfl⟩,cutF_alike.id x⟩) hp.1,hp.2⟩,ed_cu h0 h1 (val_ad hV hp) ho⟩
theorem com_all {t:TE} {o p:ED} (ho:(edR t o).2=0) (hp:(edR t p).2=0) (hd:¬ ((dotE o).2=true∧(dotE p).2=true∧(dotE o).1=(dotE p).1)):∃ z,edR (edR t o).1 p=(z,0)∧edR (edR t p).1 o=(z,0):=by
 obtain ⟨hV,⟨h0,o1,e1⟩ | ⟨h0,h1,o1,e1⟩ | ⟨h0,h1,o1,e1⟩⟩:=ed_inv ho<;>obtain ⟨_,⟨k0,p1,e2⟩ | ⟨k0,k1,p1,e2⟩ | ⟨k0,k1,p1,e2⟩⟩:=ed_inv hp<;>rw [e1,e2]
 · obtain ⟨v1,f1⟩:=val_ty hV o1
   obtain ⟨v2,f2⟩:=val_ty hV p1
   have hne:¬ (o.dv=p.dv∧o.sq=p.sq):=fun hh=>hd ⟨by simp [dotE,h0],by simp [dotE,k0],by simp [dotE,h0,k0,hh]⟩
   have m1:∀ {x},x∈all (t.cells++TL o)↔x∈t.cells∨x∈TL o:=fun {x}=>by rw [(Sq.all_is f1).mem_iff]; simp
   have m2:∀ {x},x∈all (t.cells++TL p)↔x∈t.cells∨x∈TL p:=fun {x}=>by rw [(Sq.all_is f2).mem_iff]; simp
   obtain ⟨a1,a2⟩:=ty_up (l':=all (t.cells++TL o)) hV.cells p1.2 v1.cells (fun x hx=>m1.2 (.inl hx)) (fun c hc y hy hn=>by
    have hc:=tyL_dot c hc
    have hy:=tyL_dot y ((m1.1 hy).resolve_left hn)
    exact clash_dot (by rw [hc.1,hc.2.1,hy.1,hy.2.1]; exact fun q=>hne ⟨q.1.symm,q.2.symm⟩))
   obtain ⟨b1,b2⟩:=ty_up (l':=all (t.cells++TL p)) hV.cells o1.2 v2.cells (fun x hx=>m2.2 (.inl hx)) (fun c hc y hy hn=>by
    have hc:=tyL_dot c hc
    have hy:=tyL_dot y ((m2.1 hy).resolve_left hn)
    exact clash_dot (by rw [hc.1,hc.2.1,hy.1,hy.2.1]; exact hne))
   have q1:=ed_ty (t:=⟨all (t.cells++TL o),t.marks⟩) k0 v1 ⟨p1.1,by show (tyN _ _ _ _ _ _ _ (all (t.cells++TL o))).2=0; rw [a1]⟩
   have q2:=ed_ty (t:=⟨all (t.cells++TL p),t.marks⟩) h0 v2 ⟨o1.1,by show (tyN _ _ _ _ _ _ _ (all (t.cells++TL p))).2=0; rw [b1]⟩
   refine ⟨_,q1,q2.trans ?_⟩
   show (TE.mk (tyN _ _ _ _ _ _ _ (all (t.cells++TL p))).1 t.marks,(0:Int))=(TE.mk (tyN _ _ _ _ _ _ _ (all (t.cells++TL o))).1 t.marks,(0:Int))
   rw [a1,b1]
   have hperm:(all (t.cells++TL p)++TL o).Perm (all (t.cells++TL o)++TL p):=by
    refine ((Sq.all_is f2).append_right _).trans (List.Perm.trans ?_ ((Sq.all_is f1).append_right _).symm)
    rw [List.append_assoc,List.append_assoc]
    exact List.perm_append_comm.append_left _
   have:all (all (t.cells++TL p)++TL o)=all (all (t.cells++TL o)++TL p):=Sq.all_perm (Sq.forms_iff.1 b2).1 hperm
   show (TE.mk (all (all (t.cells++TL p)++TL o)) t.marks,(0:Int))=(TE.mk (all (all (t.cells++TL o)++TL p)) t.marks,(0:Int))
   rw [this]
 · exact com_tc hV h0 k0 k1 o1 p1
 · exact com_ta hV h0 k0 k1 o1 p1
 · obtain ⟨z,z1,z2⟩:=com_tc hV k0 h0 h1 p1 o1
   exact ⟨z,z2,z1⟩
 · refine ⟨_,ed_cu k0 k1 (val_map cutF_alike hV) ⟨p1.1,p1.2.up fun x hx=>⟨CF o x,List.mem_map.2 ⟨x,hx,rfl⟩,cutF_alike.id x⟩⟩,?_⟩
   refine (ed_cu (t:=⟨t.cells.map (CF p),t.marks⟩) h0 h1 (val_map (CF_alike p) hV) ⟨o1.1,o1.2.up fun x hx=>⟨CF p x,List.mem_map.2 ⟨x,hx,rfl⟩,cutF_alike.id x⟩⟩).trans ?_
   show (TE.mk ((t.cells.map (CF p)).map (CF o)) t.marks,(0:Int))=(TE.mk ((t.cells.map (CF o)).map (CF p)) t.marks,(0:Int))
   rw [List.map_map,List.map_map]
   have:∀ x,(CF o ∘ CF p) x=(CF p ∘ CF o) x:=fun x=>Alike_ext (g:=fun x=>CF o (CF p x)) (h:=fun x=>CF p (CF o x)) (alike_comp cutF_alike cutF_alike) (alike_comp cutF_alike cutF_alike) (by
    rw [Bool.eq_iff_iff]
    unfold CF
    rw [cutF_gn,cutF_gn,cutF_gn,cutF_gn,cutF_alike.id,cutF_alike.id]
    constructor
    · rintro ((h | h) | h)
      · exact .inl (.inl h)
      · exact .inr h
      · exact .inl (.inr h)
    · rintro ((h | h) | h)
      · exact .inl (.inl h)
      · exact .inr h
      · exact .inl (.inr h))
   rw [List.map_congr_left fun x _=>this x]
 · exact com_ca hV h0 h1 k0 k1 o1 p1
 · obtain ⟨z,z1,z2⟩:=com_ta hV k0 h0 h1 p1 o1
   exact ⟨z,z2,z1⟩
 · obtain ⟨z,z1,z2⟩:=com_ca hV k0 k1 h0 h1 p1 o1
   exact ⟨z,z2,z1⟩
 · have hne:o.m.dot≠p.m.dot:=fun hh=>hd ⟨by simp [dotE,h0,h1],by simp [dotE,k0,k1],by simp only [dotE,h0,h1,k0,k1,if_false]; exact hh⟩
   refine ⟨_,ed_ad k0 k1 (val_ad hV o1) ⟨p1.1,fun a ha=>?_⟩,?_⟩
   · rcases List.mem_cons.1 ((addM_perm _ _).mem_iff.1 ha) with rfl | ha
     · exact hne
     · exact p1.2 a ha
   · rw [ed_ad h0 h1 (val_ad hV p1) ⟨o1.1,fun a ha=>by
      rcases List.mem_cons.1 ((addM_perm _ _).mem_iff.1 ha) with rfl | ha
      · exact hne.symm
      · exact o1.2 a ha⟩]
     show (TE.mk t.cells (addM o.m (addM p.m t.marks)),(0:Int))=(TE.mk t.cells (addM p.m (addM o.m t.marks)),(0:Int))
     rw [addM_comm hV.marks.sorted o1.2 p1.2 hne]
end Go.Tx


namespace Go.Tx
open Go Go.Am Go.Proofs Go.Seat
open Go.Sq (CE cel ces ida idv pid fX fiO OkRs OkR chkE)
theorem com_0 (t:TE) (o p:ED) (a1 a2 b1 b2:Int) (ha hb f2:Bool) (hd:CallC P G 27 [edt o] [] (.ret (.tup [dta a1 a2,bool ha])) []) (hd2:CallC P G 27 [edt p] [] (.ret (.tup [dta b1 b2,bool hb])) []) (hf:CallC P G 23 [txt t,edt o] [] (.ret (bool false)) []) (hf2:CallC P G 23 [txt t,edt p] [] (.ret (bool f2)) []) (h:True):CallC P G 5 [txt t,edt o,edt p] [] (AOut.ret (Am.bool true)) []:=by
 have _:=h
 exact callC_of [kc [] (@Go.Tx.sane_w (trivial)),kf (Eq.refl false),kc [] (@hd ),kc [] (@hd2 ),kc [] (@hf ),kt (Eq.refl true),kt (Eq.refl true),kt (Eq.refl true)] (by kernel_rfl)
theorem com_1 (t:TE) (o p:ED) (a1 a2 b1 b2:Int) (ha hb:Bool) (hd:CallC P G 27 [edt o] [] (.ret (.tup [dta a1 a2,bool ha])) []) (hd2:CallC P G 27 [edt p] [] (.ret (.tup [dta b1 b2,bool hb])) []) (hf:CallC P G 23 [txt t,edt o] [] (.ret (bool true)) []) (hf2:CallC P G 23 [txt t,edt p] [] (.ret (bool false)) []) (h:True):CallC P G 5 [txt t,edt o,edt p] [] (AOut.ret (Am.bool true)) []:=by
 have _:=h
 exact callC_of [kc [] (@Go.Tx.sane_w (trivial)),kf (Eq.refl false),kc [] (@hd ),kc [] (@hd2 ),kc [] (@hf ),kf (Eq.refl false),kc [] (@hf2 ),kt (Eq.refl true),kt (Eq.refl true)] (by kernel_rfl)
theorem com_3 (t x y z1 z2:TE) (o p:ED) (a1 a2 b1 b2:Int) (ha hb:Bool) (r1 r2 r3 r4 ck:Int) (sm_:Bool) (hd:CallC P G 27 [edt o] [] (.ret (.tup [dta a1 a2,bool ha])) []) (hd2:CallC P G 27 [edt p] [] (.ret (.tup [dta b1 b2,bool hb])) []) (hf:CallC P G 23 [txt t,edt o] [] (.ret (bool true)) []) (hf2:CallC P G 23 [txt t,edt p] [] (.ret (bool true)) []) (q1:CallC P G 24 [txt t,edt o] [] (.ret (.tup [txt x,int r1])) []) (q2:CallC P G 24 [txt t,edt p] [] (.ret (.tup [txt y,int r2])) []) (q3:CallC P G 24 [txt x,edt p] [] (.ret (.tup [txt z1,int r3])) []) (q4:CallC P G 24 [txt y,edt o] [] (.ret (.tup [txt z2,int r4])) []) (q5:CallC P G 26 [txt z1,txt z2] [] (.ret (bool sm_)) []) (q6:CallC P G 17 [txt z1] [] (.ret (int ck)) []) (h:((((ha)=true)→((((hb)=true)→((((a1 == b1 && a2 == b2)=true)→True)∧(((a1 == b1 && a2 == b2)=false)→(((r1=(0:Int))→(((r2=(0:Int))→(((r3=(0:Int))→(((r4=(0:Int))→((((sm_)=true)→(ck == 0)=(true))∧(((sm_)=false)→(false)=(true))))∧((¬r4=(0:Int))→(false)=(true))))∧((¬r3=(0:Int))→(false)=(true))))∧((¬r2=(0:Int))→True)))∧((¬r1=(0:Int))→True)))))∧(((hb)=false)→(((r1=(0:Int))→(((r2=(0:Int))→(((r3=(0:Int))→(((r4=(0:Int))→((((sm_)=true)→(ck == 0)=(true))∧(((sm_)=false)→(false)=(true))))∧((¬r4=(0:Int))→(false)=(true))))∧((¬r3=(0:Int))→(false)=(true))))∧((¬r2=(0:Int))→True)))∧((¬r1=(0:Int))→True)))))∧(((ha)=false)→(((r1=(0:Int))→(((r2=(0:Int))→(((r3=(0:Int))→(((r4=(0:Int))→((((sm_)=true)→(ck == 0)=(true))∧(((sm_)=false)→(false)=(true))))∧((¬r4=(0:Int))→(false)=(true))))∧((¬r3=(0:Int))→(false)=(true))))∧((¬r2=(0:Int))→True)))∧((¬r1=(0:Int))→True))))):CallC P G 5 [txt t,edt o,edt p] [] (AOut.ret (Am.bool true)) []:=by
 have hz0:=(@Go.Tx.sane_w (trivial))
 have hz1:=(@hd )
 have hz2:=(@hd2 )
 have hz3:=(@hf )
 have hz4:=(@hf2 )
 have hz5:=(@q1 )
 have hz6:=(@q2 )
 have hz9:=(@q3 )
 have hz10:=(@q4 )
 have hz11:=(@q5 )
 have hz12:=(@q6 )
 rcases Bool.eq_false_or_eq_true ((ha)) with c1 | c1
 · have h:=h.1 c1
   rcases Bool.eq_false_or_eq_true ((hb)) with c2 | c2
   · have h:=h.1 c2
     rcases Bool.eq_false_or_eq_true ((a1 == b1 && a2 == b2)) with c3 | c3
     · have h:=h.1 c3
       have _:=h
       exact callC_of [kc [] hz0,kf (Eq.refl false),kc [] hz1,kc [] hz2,kc [] hz3,kf (Eq.refl false),kc [] hz4,kf (Eq.refl false),kt c1,kt c2,kt c3] (by kernel_rfl)
     · have h:=h.2 c3
       by_cases c4:(r1=(0:Int))
       · have h:=h.1 c4
         have hz7:(r1 != 0)=false:=(congrArg Bool.not (beq_iff_eq.2 c4))
         by_cases c5:(r2=(0:Int))
         · have h:=h.1 c5
           have hz8:(r2 != 0)=false:=(congrArg Bool.not (beq_iff_eq.2 c5))
           by_cases c6:(r3=(0:Int))
           · have h:=h.1 c6
             by_cases c7:(r4=(0:Int))
             · have h:=h.1 c7
               rcases Bool.eq_false_or_eq_true ((sm_)) with c8 | c8
               · have h:=h.1 c8
                 have e1:=h
                 exact callC_out (Sub.bool_eq e1) [kc [] hz0,kf (Eq.refl false),kc [] hz1,kc [] hz2,kc [] hz3,kf (Eq.refl false),kc [] hz4,kf (Eq.refl false),kt c1,kt c2,kf c3,kc [] hz5,kc [] hz6,kf hz7,kf hz8,kc [] hz9,kc [] hz10,kt (beq_iff_eq.2 c6),kt (beq_iff_eq.2 c7),kc [] hz11,kt c8,kc [] hz12] (by kernel_rfl)
               · have h:=h.2 c8
                 have e1:=h
                 exact callC_out (Sub.bool_eq e1) [kc [] hz0,kf (Eq.refl false),kc [] hz1,kc [] hz2,kc [] hz3,kf (Eq.refl false),kc [] hz4,kf (Eq.refl false),kt c1,kt c2,kf c3,kc [] hz5,kc [] hz6,kf hz7,kf hz8,kc [] hz9,kc [] hz10,kt (beq_iff_eq.2 c6),kt (beq_iff_eq.2 c7),kc [] hz11,kf c8] (by kernel_rfl)
             · have h:=h.2 c7
               have e1:=h
               exact callC_out (Sub.bool_eq e1) [kc [] hz0,kf (Eq.refl false),kc [] hz1,kc [] hz2,kc [] hz3,kf (Eq.refl false),kc [] hz4,kf (Eq.refl false),kt c1,kt c2,kf c3,kc [] hz5,kc [] hz6,kf hz7,kf hz8,kc [] hz9,kc [] hz10,kt (beq_iff_eq.2 c6),kf (beq_eq_false_iff_ne.2 c7),kf (Eq.refl false)] (by kernel_rfl)
           · have h:=h.2 c6
             have e1:=h
             exact callC_out (Sub.bool_eq e1) [kc [] hz0,kf (Eq.refl false),kc [] hz1,kc [] hz2,kc [] hz3,kf (Eq.refl false),kc [] hz4,kf (Eq.refl false),kt c1,kt c2,kf c3,kc [] hz5,kc [] hz6,kf hz7,kf hz8,kc [] hz9,kc [] hz10,kf (beq_eq_false_iff_ne.2 c6),kf (Eq.refl false),kf (Eq.refl false)] (by kernel_rfl)
         · have h:=h.2 c5
           have _:=h
           exact callC_of [kc [] hz0,kf (Eq.refl false),kc [] hz1,kc [] hz2,kc [] hz3,kf (Eq.refl false),kc [] hz4,kf (Eq.refl false),kt c1,kt c2,kf c3,kc [] hz5,kc [] hz6,kf hz7,kt (show (r2 != 0)=true from (congrArg Bool.not (beq_eq_false_iff_ne.2 c5)))] (by kernel_rfl)
       · have h:=h.2 c4
         have _:=h
         exact callC_of [kc [] hz0,kf (Eq.refl false),kc [] hz1,kc [] hz2,kc [] hz3,kf (Eq.refl false),kc [] hz4,kf (Eq.refl false),kt c1,kt c2,kf c3,kc [] hz5,kc [] hz6,kt (show (r1 != 0)=true from (congrArg Bool.not (beq_eq_false_iff_ne.2 c4))),kt (Eq.refl true)] (by kernel_rfl)
   · have h:=h.2 c2
     by_cases c9:(r1=(0:Int))
     · have h:=h.1 c9
       have hz15:(r1 != 0)=false:=(congrArg Bool.not (beq_iff_eq.2 c9))
       by_cases c10:(r2=(0:Int))
       · have h:=h.1 c10
         have hz16:(r2 != 0)=false:=(congrArg Bool.not (beq_iff_eq.2 c10))
         by_cases c11:(r3=(0:Int))
         · have h:=h.1 c11
           by_cases c12:(r4=(0:Int))
           · have h:=h.1 c12
             rcases Bool.eq_false_or_eq_true ((sm_)) with c13 | c13
             · have h:=h.1 c13
               have e1:=h
               exact callC_out (Sub.bool_eq e1) [kc [] hz0,kf (Eq.refl false),kc [] hz1,kc [] hz2,kc [] hz3,kf (Eq.refl false),kc [] hz4,kf (Eq.refl false),kt c1,kf c2,kf (Eq.refl false),kc [] hz5,kc [] hz6,kf hz15,kf hz16,kc [] hz9,kc [] hz10,kt (beq_iff_eq.2 c11),kt (beq_iff_eq.2 c12),kc [] hz11,kt c13,kc [] hz12] (by kernel_rfl)
             · have h:=h.2 c13
               have e1:=h
               exact callC_out (Sub.bool_eq e1) [kc [] hz0,kf (Eq.refl false),kc [] hz1,kc [] hz2,kc [] hz3,kf (Eq.refl false),kc [] hz4,kf (Eq.refl false),kt c1,kf c2,kf (Eq.refl false),kc [] hz5,kc [] hz6,kf hz15,kf hz16,kc [] hz9,kc [] hz10,kt (beq_iff_eq.2 c11),kt (beq_iff_eq.2 c12),kc [] hz11,kf c13] (by kernel_rfl)
           · have h:=h.2 c12
             have e1:=h
             exact callC_out (Sub.bool_eq e1) [kc [] hz0,kf (Eq.refl false),kc [] hz1,kc [] hz2,kc [] hz3,kf (Eq.refl false),kc [] hz4,kf (Eq.refl false),kt c1,kf c2,kf (Eq.refl false),kc [] hz5,kc [] hz6,kf hz15,kf hz16,kc [] hz9,kc [] hz10,kt (beq_iff_eq.2 c11),kf (beq_eq_false_iff_ne.2 c12),kf (Eq.refl false)] (by kernel_rfl)
         · have h:=h.2 c11
           have e1:=h
           exact callC_out (Sub.bool_eq e1) [kc [] hz0,kf (Eq.refl false),kc [] hz1,kc [] hz2,kc [] hz3,kf (Eq.refl false),kc [] hz4,kf (Eq.refl false),kt c1,kf c2,kf (Eq.refl false),kc [] hz5,kc [] hz6,kf hz15,kf hz16,kc [] hz9,kc [] hz10,kf (beq_eq_false_iff_ne.2 c11),kf (Eq.refl false),kf (Eq.refl false)] (by kernel_rfl)
       · have h:=h.2 c10
         have _:=h
         exact callC_of [kc [] hz0,kf (Eq.refl false),kc [] hz1,kc [] hz2,kc [] hz3,kf (Eq.refl false),kc [] hz4,kf (Eq.refl false),kt c1,kf c2,kf (Eq.refl false),kc [] hz5,kc [] hz6,kf hz15,kt (show (r2 != 0)=true from (congrArg Bool.not (beq_eq_false_iff_ne.2 c10)))] (by kernel_rfl)
     · have h:=h.2 c9
       have _:=h
       exact callC_of [kc [] hz0,kf (Eq.refl false),kc [] hz1,kc [] hz2,kc [] hz3,kf (Eq.refl false),kc [] hz4,kf (Eq.refl false),kt c1,kf c2,kf (Eq.refl false),kc [] hz5,kc [] hz6,kt (show (r1 != 0)=true from (congrArg Bool.not (beq_eq_false_iff_ne.2 c9))),kt (Eq.refl true)] (by kernel_rfl)
 · have h:=h.2 c1
   by_cases c14:(r1=(0:Int))
   · have h:=h.1 c14
     have hz19:(r1 != 0)=false:=(congrArg Bool.not (beq_iff_eq.2 c14))
     by_cases c15:(r2=(0:Int))
     · have h:=h.1 c15
       have hz20:(r2 != 0)=false:=(congrArg Bool.not (beq_iff_eq.2 c15))
       by_cases c16:(r3=(0:Int))
       · have h:=h.1 c16
         by_cases c17:(r4=(0:Int))
         · have h:=h.1 c17
           rcases Bool.eq_false_or_eq_true ((sm_)) with c18 | c18
           · have h:=h.1 c18
             have e1:=h
             exact callC_out (Sub.bool_eq e1) [kc [] hz0,kf (Eq.refl false),kc [] hz1,kc [] hz2,kc [] hz3,kf (Eq.refl false),kc [] hz4,kf (Eq.refl false),kf c1,kf (Eq.refl false),kf (Eq.refl false),kc [] hz5,kc [] hz6,kf hz19,kf hz20,kc [] hz9,kc [] hz10,kt (beq_iff_eq.2 c16),kt (beq_iff_eq.2 c17),kc [] hz11,kt c18,kc [] hz12] (by kernel_rfl)
           · have h:=h.2 c18
             have e1:=h
             exact callC_out (Sub.bool_eq e1) [kc [] hz0,kf (Eq.refl false),kc [] hz1,kc [] hz2,kc [] hz3,kf (Eq.refl false),kc [] hz4,kf (Eq.refl false),kf c1,kf (Eq.refl false),kf (Eq.refl false),kc [] hz5,kc [] hz6,kf hz19,kf hz20,kc [] hz9,kc [] hz10,kt (beq_iff_eq.2 c16),kt (beq_iff_eq.2 c17),kc [] hz11,kf c18] (by kernel_rfl)
         · have h:=h.2 c17
           have e1:=h
           exact callC_out (Sub.bool_eq e1) [kc [] hz0,kf (Eq.refl false),kc [] hz1,kc [] hz2,kc [] hz3,kf (Eq.refl false),kc [] hz4,kf (Eq.refl false),kf c1,kf (Eq.refl false),kf (Eq.refl false),kc [] hz5,kc [] hz6,kf hz19,kf hz20,kc [] hz9,kc [] hz10,kt (beq_iff_eq.2 c16),kf (beq_eq_false_iff_ne.2 c17),kf (Eq.refl false)] (by kernel_rfl)
       · have h:=h.2 c16
         have e1:=h
         exact callC_out (Sub.bool_eq e1) [kc [] hz0,kf (Eq.refl false),kc [] hz1,kc [] hz2,kc [] hz3,kf (Eq.refl false),kc [] hz4,kf (Eq.refl false),kf c1,kf (Eq.refl false),kf (Eq.refl false),kc [] hz5,kc [] hz6,kf hz19,kf hz20,kc [] hz9,kc [] hz10,kf (beq_eq_false_iff_ne.2 c16),kf (Eq.refl false),kf (Eq.refl false)] (by kernel_rfl)
     · have h:=h.2 c15
       have _:=h
       exact callC_of [kc [] hz0,kf (Eq.refl false),kc [] hz1,kc [] hz2,kc [] hz3,kf (Eq.refl false),kc [] hz4,kf (Eq.refl false),kf c1,kf (Eq.refl false),kf (Eq.refl false),kc [] hz5,kc [] hz6,kf hz19,kt (show (r2 != 0)=true from (congrArg Bool.not (beq_eq_false_iff_ne.2 c15)))] (by kernel_rfl)
   · have h:=h.2 c14
     have _:=h
     exact callC_of [kc [] hz0,kf (Eq.refl false),kc [] hz1,kc [] hz2,kc [] hz3,kf (Eq.refl false),kc [] hz4,kf (Eq.refl false),kf c1,kf (Eq.refl false),kf (Eq.refl false),kc [] hz5,kc [] hz6,kt (show (r1 != 0)=true from (congrArg Bool.not (beq_eq_false_iff_ne.2 c14))),kt (Eq.refl true)] (by kernel_rfl)
end Go.Tx


namespace Go.Tx
open Go Go.Am Go.Proofs Go.Seat
abbrev OkA (t:TE):Prop:=OkT t∧SzC t.cells∧∀ x∈t.cells,InR x.tm
end Go.Tx


namespace Go.Tx
open Go Go.Am Go.Proofs Go.Seat
open Go.Sq (CE cel ces ida idv pid fX fiO OkRs OkR chkE insE insV formsB Ok Ids lvl all clash More ers goneAt)
theorem gone_ok {l:List CE} {j:Nat} (h:OkRs l):OkRs (goneAt l j):=fun x hx=>by
 unfold Sq.goneAt at hx
 obtain ⟨i,hi⟩:=List.mem_iff_getElem?.1 hx
 rw [List.getElem?_modify] at hi
 split at hi
 · obtain ⟨y,hy,rfl⟩:=Option.map_eq_some_iff.1 hi
   exact h y (List.mem_of_getElem? hy)
 · obtain ⟨y,hy,rfl⟩:=Option.map_eq_some_iff.1 hi
   exact h y (List.mem_of_getElem? hy)
theorem cutN_ok {a b c:Int}:∀ {n k:Nat} {l r:List CE},OkRs l→cutN a b c n k l=some r→OkRs r
 | 0,_,_,_,h,e=>by simp [cutN] at e; rw [← e]; exact h
 | n+1,k,l,r,h,e=>by
  rw [cutN] at e
  split at e
  · exact cutN_ok (gone_ok h) e
  · cases e
theorem tyN_ok {dv sq tm:Int} {s:ByteArray} (h1:InR dv) (h2:InR sq):∀ {n k:Nat} {i:Sq.ID} {l:List CE},k+n≤64→InR i.1→InR i.2.1→InR i.2.2→OkRs l→OkRs (tyN dv sq tm s n k i l).1
 | 0,_,_,_,_,_,_,_,h=>h
 | n+1,k,i,l,hk,g1,g2,g3,h=>by
  rw [tyN]
  split
  · exact fun x hx=>by cases hx
  · exact tyN_ok h1 h2 (by omega) h1 h2 (by show InR (k:Int); unfold InR; omega) (insV_ok h (tyC_ok h1 h2 (by omega) g1 g2 g3))
theorem zT_ok:OkT zT:=⟨fun x hx=>(by cases hx),fun x hx=>(by cases hx)⟩
theorem edR_ok {t:TE} {e:ED} (h:OkT t) (hE:OkE e):OkT (edR t e).1:=by
 unfold edR
 split
 · unfold typR
   split
   · exact zT_ok
   · split
     · exact zT_ok
     · split
       · exact ⟨tyN_ok hE.dv hE.sq (by omega) hE.a hE.b hE.c h.cells,h.marks⟩
       · exact zT_ok
 · split
   · unfold cutR
     split
     · exact zT_ok
     · split
       · exact zT_ok
       · split
         · rename_i hr; exact ⟨cutN_ok h.cells hr,h.marks⟩
         · exact zT_ok
   · unfold addR
     split
     · exact zT_ok
     · split
       · exact zT_ok
       · split
         · exact zT_ok
         · refine ⟨h.cells,fun m hm=>?_⟩
           have hm:m∈addM e.m t.marks:=hm
           rcases List.mem_cons.1 ((addM_perm _ _).mem_iff.1 hm) with rfl | hm
           · exact hE.m
           · exact h.marks m hm
theorem fewE_iff {t:TE} {e:ED} (h:fewE t e=true):t.cells.length≤40∧t.marks.length≤12∧e.s.size≤100:=by unfold fewE fewT at h; grind
theorem tcom_h (t:TE) (o p:ED) (h:OkA t) (hO:OkE o) (hP:OkE p):CallC P G 5 [txt t,edt o,edt p] [] (.ret (bool true)) []:=by
 have hf:=fewE_c t o hO.s
 have hf2:=fewE_c t p hP.s
 cases hb:fewE t o with
 | false=>rw [hb] at hf; exact com_0 t o p _ _ _ _ _ _ _ (dot_c o) (dot_c p) hf hf2 trivial
 | true =>
  rw [hb] at hf
  cases hb2:fewE t p with
  | false=>rw [hb2] at hf2; exact com_1 t o p _ _ _ _ _ _ (dot_c o) (dot_c p) hf hf2 trivial
  | true =>
   rw [hb2] at hf2
   obtain ⟨l1,l2,l3⟩:=fewE_iff hb
   obtain ⟨_,_,l4⟩:=fewE_iff hb2
   have hL:LenT t:=⟨by omega,by omega⟩
   have lx:=edR_len t o
   have ly:=edR_len t p
   have hLx:LenT (edR t o).1:=⟨by omega,by omega⟩
   have hLy:LenT (edR t p).1:=⟨by omega,by omega⟩
   have lxy:=edR_len (edR t o).1 p
   have lyx:=edR_len (edR t p).1 o
   have hLxy:LenT (edR (edR t o).1 p).1:=⟨by omega,by omega⟩
   have okx:=edR_ok h.1 hO
   have oky:=edR_ok h.1 hP
   refine com_3 t _ _ _ _ o p _ _ _ _ _ _ _ _ _ _ _ _ (dot_c o) (dot_c p) hf hf2 (perf_c t o hL h.1 hO) (perf_c t p hL h.1 hP) (perf_c _ p hLx okx hP) (perf_c _ o hLy oky hO)
    (same_c _ _ (by omega) (by omega) (by omega) (by omega)) (check_c _ hLxy (edR_ok okx hP)) ?_
   by_cases hr1:(edR t o).2=0
   · by_cases hr2:(edR t p).2=0
     · by_cases hd:(dotE o).2=true∧(dotE p).2=true∧(dotE o).1=(dotE p).1
       · obtain ⟨d1,d2,d3⟩:=hd
         rw [d1,d2,d3]
         exact ⟨fun _=>⟨fun _=>⟨fun _=>trivial,fun q=>by simp at q⟩,fun q=>by cases q⟩,fun q=>by cases q⟩
       · obtain ⟨z,z1,z2⟩:=com_all hr1 hr2 hd
         have hz:chkT z=0:=by
          have:=ed_val (t:=(edR t o).1) (e:=p) (by rw [z1])
          rw [z1] at this
          exact this.chk
         rw [z1,z2,hr1,hr2]
         simp only [hz,decide_true]
         simp
     · simp only [hr1,hr2]
       simp
   · simp only [hr1]
     simp
end Go.Tx
