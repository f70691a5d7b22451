import Derived.Test.YtihbnnkcemjflaaGreatDoorG7
set_option maxRecDepth 100000
set_option linter.unusedSimpArgs false
set_option linter.unusedVariables false
open List
noncomputable section
namespace Go.Proofs.YtihbnnkcemjflaaGreatDoor
open Go Go.Am Go.ChangeShapes Go.WideShapes Go.RowKit Go.eY Go.Mg
theorem aU:ownKnob Tryz.prog.godebug=Option.none:=zQ
theorem laidOut:laidOutB Tryz.prog=true:=zQ
theorem ak9:mapsRowed Tryz.prog=true:=zQ
theorem full:((List.range Tryz.prog.types.size).all fun t=>match Tryz.prog.underlying t with|some (.slice e)=>decide (0<Tryz.prog.cellsOf e)|_=>true)=true:=zQ
theorem aqJ(H:Type)(aQ:TypeId×Value->H)(W:World)(base:Nat)(args:Array Value)(ds gs:List (DataW H))(before:List MemPlace)(Cb:∀(j:Nat) t v,Tryz.f8.params[j]?=some t->args[j]?=some v->Value.okWide Tryz.prog W .any base t v)(hW:DataW.Whole aQ Tryz.prog Tryz.f8.params.toList Rows.mergeAppliesSpec.vars false W args.toList ds gs before)(hL:laidMetH Tryz.prog Rows.mergeAppliesRow.laid W) :
 Calls Tryz.prog 8 args W fun e W'=>∃v,e = .returned v/\Rows.mergeAppliesSpec.post aQ Tryz.prog Tryz.f8 false true false false W args v W':=by
 have hW':=hW;obtain⟨p,q,hA0,hV,rfl,Qz,wO⟩:=hW;have hA:DataW.TrodAll aQ Tryz.prog W 0 (fun _=>true) true Tryz.f8.params.toList args.toList ds p:=hA0;rw[Tryz.params8]at hA Cb;obtain⟨v0,vs0,d0,ds0,p0,q0,jf,rfl,rfl,h0,r0⟩:=trodAll_cons hA;obtain⟨rfl,rfl,rfl⟩:=trodAll_nil r0;obtain rfl:args=#[v0]:=by cases args;simp_all
 obtain⟨a0,k0,g0⟩:=KV (Cb 0 22 v0 rfl rfl) h0;refine(Vy (Mg.ari k0.2 k0.1) (ajN rfl hL) (.cons g0 .nil)).mono fun e W' ⟨he,hk⟩=>?_;subst he;exact⟨_,rfl,Y9 (ds:=[d0]) laidOut ak9 (slices_full_of _ full) rfl rfl (fun t ht=>by rw[Tryz.params8]at ht;have:(#[22]:Array TypeId).toList.all (fun t=>decide (t<Tryz.prog.types.size))=true:=zQ;exact of_decide_eq_true (all_eq_true.1 this t ht)) rfl Tryz.underlying4 hW' hk⟩
theorem aqT(os:Os){H:Type}(aQ:TypeId×Value->H):∃places,DataW.whole aQ Tryz.prog ((World.doorLaid Tryz.prog 600 os).forCall (fun _ _=>0) ⟨#[],#[.slice Option.none 0 0],[]⟩).memory Tryz.f8.params.toList Rows.mergeAppliesSpec.vars false (#[.slice Option.none 0 0]:Array Value).toList 8=some ([.nil],[],places) :=
 ⟨[],zQ⟩
set_option maxRecDepth 100000 in
theorem aqO(os:Os)(started:os.Started)(H:Type)(aQ:TypeId×Value->H)(F:Stop.Interp) :
 ReturnsInHanded {} Tryz.checked os 8 .any ((OpenSpec.ofChange Rows.mergeAppliesSpec).preRow aQ Tryz.prog Tryz.f8 Rows.mergeAppliesRow.domain false Rows.mergeAppliesRow.laid) (((OpenSpec.ofChange Rows.mergeAppliesSpec).at F).post aQ Tryz.prog Tryz.f8 false true false false):=by
 obtain⟨places,hx⟩:=aqT os aQ;refine returnsInHanded_of_row (C:=Tryz.checked) (s:=OpenSpec.ofChange Rows.mergeAppliesSpec) aU started zQ Tryz.func8
  (witness_row_at (enc:=aQ) (C:=Tryz.checked) false (World.doorLaid Tryz.prog 600 os) #[.slice Option.none 0 0] rfl zQ zQ zQ
   (OpenSpec.preRow_of_cond 8 hx zQ (fun k hk=>by cases hk) zQ (Zc os _))) ?_
 intro W base args ds gs before Cb hW _ _ _ hL _ _;exact aqJ H aQ W base args ds gs before Cb hW hL
theorem aqZ:jf1 Tryz.pinned.checked.prog 8 Tryz.f8 (OpenSpec.ofChange Rows.mergeAppliesSpec).bare Rows.mergeAppliesRow=true:=zQ
theorem aq2:jf2 Tryz.pinned.checked.prog 8 Tryz.f8 (OpenSpec.ofChange Rows.mergeAppliesSpec).bare Rows.mergeAppliesRow=true:=zQ
theorem aq3:jf3 Tryz.pinned.checked.prog 8 Tryz.f8 (OpenSpec.ofChange Rows.mergeAppliesSpec).bare Rows.mergeAppliesRow=true:=zQ
theorem aq4:jf4 Tryz.pinned.checked.prog 8 Tryz.f8 (OpenSpec.ofChange Rows.mergeAppliesSpec).bare Rows.mergeAppliesRow=true:=zQ
theorem aq5:jf5 Tryz.pinned.checked.prog 8 Tryz.f8 (OpenSpec.ofChange Rows.mergeAppliesSpec).bare Rows.mergeAppliesRow=true:=zQ
theorem aq6:jf6 Tryz.pinned.checked.prog 8 Tryz.f8 (OpenSpec.ofChange Rows.mergeAppliesSpec).bare Rows.mergeAppliesRow=true:=zQ
theorem aq7:jf7 Tryz.pinned.checked.prog 8 Tryz.f8 (OpenSpec.ofChange Rows.mergeAppliesSpec).bare Rows.mergeAppliesRow=true:=zQ
theorem aq8:jf8 Tryz.pinned.checked.prog 8 Tryz.f8 (OpenSpec.ofChange Rows.mergeAppliesSpec).bare Rows.mergeAppliesRow=true:=zQ
theorem aq9:jf9 Tryz.pinned.checked.prog 8 Tryz.f8 (OpenSpec.ofChange Rows.mergeAppliesSpec).bare Rows.mergeAppliesRow=true:=zQ
theorem aqX:agQ Tryz.pinned.checked.prog 8 Tryz.f8 (OpenSpec.ofChange Rows.mergeAppliesSpec).bare Rows.mergeAppliesRow=true:=zQ
theorem aqY:agR Tryz.pinned.checked.prog 8 Tryz.f8 (OpenSpec.ofChange Rows.mergeAppliesSpec).bare Rows.mergeAppliesRow=true:=zQ
theorem aqN:joinedFacts Tryz.pinned.checked.prog 8 Tryz.f8 (OpenSpec.ofChange Rows.mergeAppliesSpec).bare Rows.mergeAppliesRow=true:=Wd aqZ aq2 aq3 aq4 aq5 aq6 aq7 aq8 aq9 aqX aqY
end Go.Proofs.YtihbnnkcemjflaaGreatDoor
