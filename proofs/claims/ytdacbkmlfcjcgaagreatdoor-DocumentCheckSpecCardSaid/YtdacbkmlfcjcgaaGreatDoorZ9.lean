import Derived.Test.YtdacbkmlfcjcgaaGreatDoorZ8
set_option maxRecDepth 100000
set_option linter.unusedSimpArgs false
set_option linter.unusedVariables false
open List
noncomputable section
namespace Go.Proofs.YtdacbkmlfcjcgaaGreatDoor
open Go Go.Am Go.ChangeShapes Go.WideShapes Go.RowKit Go.eY Go.Dc
theorem aU:ownKnob Tryz.prog.godebug=Option.none:=zQ
theorem laidOut:laidOutB Tryz.prog=true:=zQ
theorem ak9:mapsRowed Tryz.prog=true:=zQ
theorem full:((List.range Tryz.prog.types.size).all fun t=>match Tryz.prog.underlying t with|some (.slice e)=>decide (0<Tryz.prog.cellsOf e)|_=>true)=true:=zQ
theorem aww(H:Type)(aQ:TypeId×Value->H)(W:World)(base:Nat)(args:Array Value)(ds gs:List (DataW H))(before:List MemPlace)(Cb:∀(j:Nat) t v,Tryz.f4.params[j]?=some t->args[j]?=some v->Value.okWide Tryz.prog W .any base t v)(hW:DataW.Whole aQ Tryz.prog Tryz.f4.params.toList Rows.documentCheckSpecSpec.vars false W args.toList ds gs before)(hL:laidMetH Tryz.prog Rows.documentCheckSpecRow.laid W)(iZ:(DataW.weightsEach Tryz.prog (Tryz.f4.params.toList++(OpenSpec.ofChange Rows.documentCheckSpecSpec).bare.plain.varTypes Tryz.prog) (ds++gs)).all (·<=reachBytes)=true) :
 Calls Tryz.prog 4 args W fun e W'=>∃v,e = .returned v/\Rows.documentCheckSpecSpec.post aQ Tryz.prog Tryz.f4 false true false false W args v W':=by
 have hW':=hW;obtain⟨p,q,hA0,hV,rfl,Qz,wO⟩:=hW;have hA:DataW.TrodAll aQ Tryz.prog W 0 (fun _=>true) true Tryz.f4.params.toList args.toList ds p:=hA0;rw[Tryz.params4]at hA Cb iZ;obtain⟨v0,vs0,d0,ds0,p0,q0,jf,rfl,rfl,h0,r0⟩:=trodAll_cons hA;obtain⟨v1,vs1,d1,ds1,p1,q1,rfl,rfl,rfl,h1,r1⟩:=trodAll_cons r0;obtain⟨rfl,rfl,rfl⟩:=trodAll_nil r1;obtain rfl:args=#[v0,v1]:=by cases args;simp_all
 obtain⟨a0,k0,g0⟩:=awl (Cb 0 25 v0 rfl rfl) h0;obtain⟨a1,k1,g1⟩:=awl (Cb 1 25 v1 rfl rfl) h1;refine(Vy (Dc.aHp k0 k1) (ajN rfl hL) (.cons g0 (.cons g1 .nil))).mono fun e W' ⟨he,hk⟩=>?_;subst he;exact⟨_,rfl,Y9 (ds:=[d0,d1]) laidOut ak9 (slices_full_of _ full) rfl rfl (fun t ht=>by rw[Tryz.params4]at ht;have:(#[25,25]:Array TypeId).toList.all (fun t=>decide (t<Tryz.prog.types.size))=true:=zQ;exact of_decide_eq_true (all_eq_true.1 this t ht)) rfl Tryz.underlying4 hW' hk⟩
theorem axj(os:Os){H:Type}(aQ:TypeId×Value->H):∃places,DataW.whole aQ Tryz.prog ((World.doorLaid Tryz.prog 600 os).forCall (fun _ _=>0) ⟨#[],#[.agg #[.slice Option.none 0 0,.slice Option.none 0 0],.agg #[.slice Option.none 0 0,.slice Option.none 0 0]],[]⟩).memory Tryz.f4.params.toList Rows.documentCheckSpecSpec.vars false (#[.agg #[.slice Option.none 0 0,.slice Option.none 0 0],.agg #[.slice Option.none 0 0,.slice Option.none 0 0]]:Array Value).toList 8=some ([.agg [.nil,.nil],.agg [.nil,.nil]],[],places) :=
 ⟨[],zQ⟩
set_option maxRecDepth 100000 in
theorem axd(os:Os)(started:os.Started)(H:Type)(aQ:TypeId×Value->H)(F:Stop.Interp) :
 ReturnsInHanded {} Tryz.checked os 4 .any ((OpenSpec.ofChange Rows.documentCheckSpecSpec).preRow aQ Tryz.prog Tryz.f4 Rows.documentCheckSpecRow.domain false Rows.documentCheckSpecRow.laid) (((OpenSpec.ofChange Rows.documentCheckSpecSpec).at F).post aQ Tryz.prog Tryz.f4 false true false false):=by
 obtain⟨places,hx⟩:=axj os aQ;refine returnsInHanded_of_row (C:=Tryz.checked) (s:=OpenSpec.ofChange Rows.documentCheckSpecSpec) aU started zQ Tryz.func4
  (witness_row_at (enc:=aQ) (C:=Tryz.checked) false (World.doorLaid Tryz.prog 600 os) #[.agg #[.slice Option.none 0 0,.slice Option.none 0 0],.agg #[.slice Option.none 0 0,.slice Option.none 0 0]] rfl zQ zQ zQ
   (OpenSpec.preRow_of_cond 8 hx zQ (fun k hk=>by cases hk) zQ (Zc os _))) ?_
 intro W base args ds gs before Cb hW _ _ iZ hL _ _;exact aww H aQ W base args ds gs before Cb hW hL iZ
theorem azP:jf1 Tryz.pinned.checked.prog 4 Tryz.f4 (OpenSpec.ofChange Rows.documentCheckSpecSpec).bare Rows.documentCheckSpecRow=true:=zQ
theorem azQ:jf2 Tryz.pinned.checked.prog 4 Tryz.f4 (OpenSpec.ofChange Rows.documentCheckSpecSpec).bare Rows.documentCheckSpecRow=true:=zQ
theorem azR:jf3 Tryz.pinned.checked.prog 4 Tryz.f4 (OpenSpec.ofChange Rows.documentCheckSpecSpec).bare Rows.documentCheckSpecRow=true:=zQ
theorem azS:jf4 Tryz.pinned.checked.prog 4 Tryz.f4 (OpenSpec.ofChange Rows.documentCheckSpecSpec).bare Rows.documentCheckSpecRow=true:=zQ
theorem azT:jf5 Tryz.pinned.checked.prog 4 Tryz.f4 (OpenSpec.ofChange Rows.documentCheckSpecSpec).bare Rows.documentCheckSpecRow=true:=zQ
theorem azU:jf6 Tryz.pinned.checked.prog 4 Tryz.f4 (OpenSpec.ofChange Rows.documentCheckSpecSpec).bare Rows.documentCheckSpecRow=true:=zQ
theorem azV:jf7 Tryz.pinned.checked.prog 4 Tryz.f4 (OpenSpec.ofChange Rows.documentCheckSpecSpec).bare Rows.documentCheckSpecRow=true:=zQ
theorem azW:jf8 Tryz.pinned.checked.prog 4 Tryz.f4 (OpenSpec.ofChange Rows.documentCheckSpecSpec).bare Rows.documentCheckSpecRow=true:=zQ
theorem azX:jf9 Tryz.pinned.checked.prog 4 Tryz.f4 (OpenSpec.ofChange Rows.documentCheckSpecSpec).bare Rows.documentCheckSpecRow=true:=zQ
theorem axu:agQ Tryz.pinned.checked.prog 4 Tryz.f4 (OpenSpec.ofChange Rows.documentCheckSpecSpec).bare Rows.documentCheckSpecRow=true:=zQ
theorem axv:agR Tryz.pinned.checked.prog 4 Tryz.f4 (OpenSpec.ofChange Rows.documentCheckSpecSpec).bare Rows.documentCheckSpecRow=true:=zQ
theorem aw5:joinedFacts Tryz.pinned.checked.prog 4 Tryz.f4 (OpenSpec.ofChange Rows.documentCheckSpecSpec).bare Rows.documentCheckSpecRow=true:=Wd azP azQ azR azS azT azU azV azW azX axu axv
end Go.Proofs.YtdacbkmlfcjcgaaGreatDoor
