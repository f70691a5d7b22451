import Derived.Test.YtdacbkmlfcjcgaaGreatDoorY8
set_option maxRecDepth 100000
set_option linter.unusedSimpArgs false
set_option linter.unusedVariables false
open List
noncomputable section
namespace Go.Proofs.YtdacbkmlfcjcgaaGreatDoor
open Go Go.Am Go.ChangeShapes Go.WideShapes Go.RowKit Go.eY Go.Dc
theorem aU:ownKnob Tryz.prog.godebug=Option.none:=zQ
theorem laidOut:laidOutB Tryz.prog=true:=zQ
theorem ak9:mapsRowed Tryz.prog=true:=zQ
theorem full:((List.range Tryz.prog.types.size).all fun t=>match Tryz.prog.underlying t with|some (.slice e)=>decide (0<Tryz.prog.cellsOf e)|_=>true)=true:=zQ
theorem awt(H:Type)(aQ:TypeId×Value->H)(W:World)(base:Nat)(args:Array Value)(ds gs:List (DataW H))(before:List MemPlace)(Cb:∀(j:Nat) t v,Tryz.f5.params[j]?=some t->args[j]?=some v->Value.okWide Tryz.prog W .any base t v)(hW:DataW.Whole aQ Tryz.prog Tryz.f5.params.toList Rows.documentCodeSpecSpec.vars false W args.toList ds gs before)(hL:laidMetH Tryz.prog Rows.documentCodeSpecRow.laid W)(iZ:(DataW.weightsEach Tryz.prog (Tryz.f5.params.toList++(OpenSpec.ofChange Rows.documentCodeSpecSpec).bare.plain.varTypes Tryz.prog) (ds++gs)).all (·<=reachBytes)=true) :
 Calls Tryz.prog 5 args W fun e W'=>∃v,e = .returned v/\Rows.documentCodeSpecSpec.post aQ Tryz.prog Tryz.f5 false true false false W args v W':=by
 have hW':=hW;obtain⟨p,q,hA0,hV,rfl,Qz,wO⟩:=hW;have hA:DataW.TrodAll aQ Tryz.prog W 0 (fun _=>true) true Tryz.f5.params.toList args.toList ds p:=hA0;rw[Tryz.params5]at hA Cb iZ;obtain⟨v0,vs0,d0,ds0,p0,q0,jf,rfl,rfl,h0,r0⟩:=trodAll_cons hA;obtain⟨v1,vs1,d1,ds1,p1,q1,rfl,rfl,rfl,h1,r1⟩:=trodAll_cons r0;obtain⟨rfl,rfl,rfl⟩:=trodAll_nil r1;obtain rfl:args=#[v0,v1]:=by cases args;simp_all
 obtain⟨a0,k0,g0⟩:=awl (Cb 0 25 v0 rfl rfl) h0;obtain⟨a1,k1,g1⟩:=aA6 (Cb 1 48 v1 rfl rfl) h1;refine(Vy (Dc.aH9 k0) (ajN rfl hL) (.cons g0 (.cons g1 .nil))).mono fun e W' ⟨he,hk⟩=>?_;subst he;exact⟨_,rfl,Y9 (ds:=[d0,d1]) laidOut ak9 (slices_full_of _ full) rfl rfl (fun t ht=>by rw[Tryz.params5]at ht;have:(#[25,48]:Array TypeId).toList.all (fun t=>decide (t<Tryz.prog.types.size))=true:=zQ;exact of_decide_eq_true (all_eq_true.1 this t ht)) rfl Tryz.underlying4 hW' hk⟩
theorem axk(os:Os){H:Type}(aQ:TypeId×Value->H):∃places,DataW.whole aQ Tryz.prog ((World.doorLaid Tryz.prog 600 os).forCall (fun _ _=>0) ⟨#[],#[.agg #[.slice Option.none 0 0,.slice Option.none 0 0],.slice Option.none 0 0],[]⟩).memory Tryz.f5.params.toList Rows.documentCodeSpecSpec.vars false (#[.agg #[.slice Option.none 0 0,.slice Option.none 0 0],.slice Option.none 0 0]:Array Value).toList 8=some ([.agg [.nil,.nil],.nil],[],places) :=
 ⟨[],zQ⟩
set_option maxRecDepth 100000 in
theorem axg(os:Os)(started:os.Started)(H:Type)(aQ:TypeId×Value->H)(F:Stop.Interp) :
 ReturnsInHanded {} Tryz.checked os 5 .any ((OpenSpec.ofChange Rows.documentCodeSpecSpec).preRow aQ Tryz.prog Tryz.f5 Rows.documentCodeSpecRow.domain false Rows.documentCodeSpecRow.laid) (((OpenSpec.ofChange Rows.documentCodeSpecSpec).at F).post aQ Tryz.prog Tryz.f5 false true false false):=by
 obtain⟨places,hx⟩:=axk os aQ;refine returnsInHanded_of_row (C:=Tryz.checked) (s:=OpenSpec.ofChange Rows.documentCodeSpecSpec) aU started zQ Tryz.func5
  (witness_row_at (enc:=aQ) (C:=Tryz.checked) false (World.doorLaid Tryz.prog 600 os) #[.agg #[.slice Option.none 0 0,.slice Option.none 0 0],.slice Option.none 0 0] rfl zQ zQ zQ
   (OpenSpec.preRow_of_cond 8 hx zQ (fun k hk=>by cases hk) zQ (Zc os _))) ?_
 intro W base args ds gs before Cb hW _ _ iZ hL _ _;exact awt H aQ W base args ds gs before Cb hW hL iZ
theorem axt:jf1 Tryz.pinned.checked.prog 5 Tryz.f5 (OpenSpec.ofChange Rows.documentCodeSpecSpec).bare Rows.documentCodeSpecRow=true:=zQ
theorem axu:jf2 Tryz.pinned.checked.prog 5 Tryz.f5 (OpenSpec.ofChange Rows.documentCodeSpecSpec).bare Rows.documentCodeSpecRow=true:=zQ
theorem axv:jf3 Tryz.pinned.checked.prog 5 Tryz.f5 (OpenSpec.ofChange Rows.documentCodeSpecSpec).bare Rows.documentCodeSpecRow=true:=zQ
theorem axw:jf4 Tryz.pinned.checked.prog 5 Tryz.f5 (OpenSpec.ofChange Rows.documentCodeSpecSpec).bare Rows.documentCodeSpecRow=true:=zQ
theorem azO:jf5 Tryz.pinned.checked.prog 5 Tryz.f5 (OpenSpec.ofChange Rows.documentCodeSpecSpec).bare Rows.documentCodeSpecRow=true:=zQ
theorem azP:jf6 Tryz.pinned.checked.prog 5 Tryz.f5 (OpenSpec.ofChange Rows.documentCodeSpecSpec).bare Rows.documentCodeSpecRow=true:=zQ
theorem azQ:jf7 Tryz.pinned.checked.prog 5 Tryz.f5 (OpenSpec.ofChange Rows.documentCodeSpecSpec).bare Rows.documentCodeSpecRow=true:=zQ
theorem azR:jf8 Tryz.pinned.checked.prog 5 Tryz.f5 (OpenSpec.ofChange Rows.documentCodeSpecSpec).bare Rows.documentCodeSpecRow=true:=zQ
theorem azS:jf9 Tryz.pinned.checked.prog 5 Tryz.f5 (OpenSpec.ofChange Rows.documentCodeSpecSpec).bare Rows.documentCodeSpecRow=true:=zQ
theorem axp:agQ Tryz.pinned.checked.prog 5 Tryz.f5 (OpenSpec.ofChange Rows.documentCodeSpecSpec).bare Rows.documentCodeSpecRow=true:=zQ
theorem axq:agR Tryz.pinned.checked.prog 5 Tryz.f5 (OpenSpec.ofChange Rows.documentCodeSpecSpec).bare Rows.documentCodeSpecRow=true:=zQ
theorem axh:joinedFacts Tryz.pinned.checked.prog 5 Tryz.f5 (OpenSpec.ofChange Rows.documentCodeSpecSpec).bare Rows.documentCodeSpecRow=true:=Wd axt axu axv axw azO azP azQ azR azS axp axq
end Go.Proofs.YtdacbkmlfcjcgaaGreatDoor
