import Derived.Test.YtdacbkmlfcjcgaaGreatDoorZ7
set_option maxRecDepth 100000
set_option linter.unusedSimpArgs false
set_option linter.unusedVariables false
open List
noncomputable section
namespace Go.Proofs.YtdacbkmlfcjcgaaGreatDoor
open Go Go.Am Go.ChangeShapes Go.WideShapes Go.RowKit Go.eY Go.Dc
theorem aU:ownKnob Tryz.prog.godebug=Option.none:=zQ
theorem laidOut:laidOutB Tryz.prog=true:=zQ
theorem ak9:mapsRowed Tryz.prog=true:=zQ
theorem full:((List.range Tryz.prog.types.size).all fun t=>match Tryz.prog.underlying t with|some (.slice e)=>decide (0<Tryz.prog.cellsOf e)|_=>true)=true:=zQ
theorem axe(H:Type)(aQ:TypeId×Value->H)(W:World)(base:Nat)(args:Array Value)(ds gs:List (DataW H))(before:List MemPlace)(Cb:∀(j:Nat) t v,Tryz.f8.params[j]?=some t->args[j]?=some v->Value.okWide Tryz.prog W .any base t v)(hW:DataW.Whole aQ Tryz.prog Tryz.f8.params.toList Rows.documentBackSpec.vars false W args.toList ds gs before)(hL:laidMetH Tryz.prog Rows.documentBackRow.laid W)(iZ:(DataW.weightsEach Tryz.prog (Tryz.f8.params.toList++(OpenSpec.ofChange Rows.documentBackSpec).bare.plain.varTypes Tryz.prog) (ds++gs)).all (·<=reachBytes)=true) :
 Calls Tryz.prog 8 args W fun e W'=>∃v,e = .returned v/\Rows.documentBackSpec.post aQ Tryz.prog Tryz.f8 false true false false W args v W':=by
 have hW':=hW;obtain⟨p,q,hA0,hV,rfl,Qz,wO⟩:=hW;have hA:DataW.TrodAll aQ Tryz.prog W 0 (fun _=>true) true Tryz.f8.params.toList args.toList ds p:=hA0;rw[Tryz.params8]at hA Cb iZ;obtain⟨v0,vs0,d0,ds0,p0,q0,jf,rfl,rfl,h0,r0⟩:=trodAll_cons hA;obtain⟨v1,vs1,d1,ds1,p1,q1,rfl,rfl,rfl,h1,r1⟩:=trodAll_cons r0;obtain⟨v2,vs2,d2,ds2,p2,q2,rfl,rfl,rfl,h2,r2⟩:=trodAll_cons r1;obtain⟨rfl,rfl,rfl⟩:=trodAll_nil r2;obtain rfl:args=#[v0,v1,v2]:=by cases args;simp_all
 obtain⟨a0,k0,g0⟩:=awl (Cb 0 25 v0 rfl rfl) h0;obtain⟨a1,k1,g1⟩:=awl (Cb 1 25 v1 rfl rfl) h1;obtain⟨a2,k2,g2⟩:=aAk (Cb 2 48 v2 rfl rfl) h2;refine(Vy (Dc.aBG k0 k1 k2) (ajN rfl hL) (.cons g0 (.cons g1 (.cons g2 .nil)))).mono fun e W' ⟨he,hk⟩=>?_;subst he;exact⟨_,rfl,Y9 (ds:=[d0,d1,d2]) laidOut ak9 (slices_full_of _ full) rfl rfl (fun t ht=>by rw[Tryz.params8]at ht;have:(#[25,25,48]:Array TypeId).toList.all (fun t=>decide (t<Tryz.prog.types.size))=true:=zQ;exact of_decide_eq_true (all_eq_true.1 this t ht)) rfl Tryz.underlying4 hW' hk⟩
theorem axj(os:Os){H:Type}(aQ:TypeId×Value->H):∃places,DataW.whole aQ Tryz.prog ((World.doorLaid Tryz.prog 600 os).forCall (fun _ _=>0) ⟨#[],#[.agg #[.slice Option.none 0 0,.slice Option.none 0 0],.agg #[.slice Option.none 0 0,.slice Option.none 0 0],.slice Option.none 0 0],[]⟩).memory Tryz.f8.params.toList Rows.documentBackSpec.vars false (#[.agg #[.slice Option.none 0 0,.slice Option.none 0 0],.agg #[.slice Option.none 0 0,.slice Option.none 0 0],.slice Option.none 0 0]:Array Value).toList 8=some ([.agg [.nil,.nil],.agg [.nil,.nil],.nil],[],places) :=
 ⟨[],zQ⟩
set_option maxRecDepth 100000 in
theorem axh(os:Os)(started:os.Started)(H:Type)(aQ:TypeId×Value->H)(F:Stop.Interp) :
 ReturnsInHanded {} Tryz.checked os 8 .any ((OpenSpec.ofChange Rows.documentBackSpec).preRow aQ Tryz.prog Tryz.f8 Rows.documentBackRow.domain false Rows.documentBackRow.laid) (((OpenSpec.ofChange Rows.documentBackSpec).at F).post aQ Tryz.prog Tryz.f8 false true false false):=by
 obtain⟨places,hx⟩:=axj os aQ;refine returnsInHanded_of_row (C:=Tryz.checked) (s:=OpenSpec.ofChange Rows.documentBackSpec) aU started zQ Tryz.func8
  (witness_row_at (enc:=aQ) (C:=Tryz.checked) false (World.doorLaid Tryz.prog 600 os) #[.agg #[.slice Option.none 0 0,.slice Option.none 0 0],.agg #[.slice Option.none 0 0,.slice Option.none 0 0],.slice Option.none 0 0] rfl zQ zQ zQ
   (OpenSpec.preRow_of_cond 8 hx zQ (fun k hk=>by cases hk) zQ (Zc os _))) ?_
 intro W base args ds gs before Cb hW _ _ iZ hL _ _;exact axe H aQ W base args ds gs before Cb hW hL iZ
theorem axv:jf1 Tryz.pinned.checked.prog 8 Tryz.f8 (OpenSpec.ofChange Rows.documentBackSpec).bare Rows.documentBackRow=true:=zQ
theorem axw:jf2 Tryz.pinned.checked.prog 8 Tryz.f8 (OpenSpec.ofChange Rows.documentBackSpec).bare Rows.documentBackRow=true:=zQ
theorem azO:jf3 Tryz.pinned.checked.prog 8 Tryz.f8 (OpenSpec.ofChange Rows.documentBackSpec).bare Rows.documentBackRow=true:=zQ
theorem azP:jf4 Tryz.pinned.checked.prog 8 Tryz.f8 (OpenSpec.ofChange Rows.documentBackSpec).bare Rows.documentBackRow=true:=zQ
theorem azQ:jf5 Tryz.pinned.checked.prog 8 Tryz.f8 (OpenSpec.ofChange Rows.documentBackSpec).bare Rows.documentBackRow=true:=zQ
theorem azR:jf6 Tryz.pinned.checked.prog 8 Tryz.f8 (OpenSpec.ofChange Rows.documentBackSpec).bare Rows.documentBackRow=true:=zQ
theorem azS:jf7 Tryz.pinned.checked.prog 8 Tryz.f8 (OpenSpec.ofChange Rows.documentBackSpec).bare Rows.documentBackRow=true:=zQ
theorem azT:jf8 Tryz.pinned.checked.prog 8 Tryz.f8 (OpenSpec.ofChange Rows.documentBackSpec).bare Rows.documentBackRow=true:=zQ
theorem azU:jf9 Tryz.pinned.checked.prog 8 Tryz.f8 (OpenSpec.ofChange Rows.documentBackSpec).bare Rows.documentBackRow=true:=zQ
theorem axp:agQ Tryz.pinned.checked.prog 8 Tryz.f8 (OpenSpec.ofChange Rows.documentBackSpec).bare Rows.documentBackRow=true:=zQ
theorem axq:agR Tryz.pinned.checked.prog 8 Tryz.f8 (OpenSpec.ofChange Rows.documentBackSpec).bare Rows.documentBackRow=true:=zQ
theorem axi:joinedFacts Tryz.pinned.checked.prog 8 Tryz.f8 (OpenSpec.ofChange Rows.documentBackSpec).bare Rows.documentBackRow=true:=Wd axv axw azO azP azQ azR azS azT azU axp axq
end Go.Proofs.YtdacbkmlfcjcgaaGreatDoor
