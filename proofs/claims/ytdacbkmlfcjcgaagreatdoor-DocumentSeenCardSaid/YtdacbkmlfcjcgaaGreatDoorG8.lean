import Derived.Test.YtdacbkmlfcjcgaaGreatDoorG7
set_option maxRecDepth 100000
set_option linter.unusedSimpArgs false
set_option linter.unusedVariables false
open List
noncomputable section
namespace Go.Proofs.YtdacbkmlfcjcgaaGreatDoor
open Go Go.Am Go.ChangeShapes Go.WideShapes Go.RowKit Go.eY Go.Dc
theorem aU:ownKnob Tryz.prog.godebug=Option.none:=zQ
theorem laidOut:laidOutB Tryz.prog=true:=zQ
theorem ak9:mapsRowed Tryz.prog=true:=zQ
theorem full:((List.range Tryz.prog.types.size).all fun t=>match Tryz.prog.underlying t with|some (.slice e)=>decide (0<Tryz.prog.cellsOf e)|_=>true)=true:=zQ
theorem kV(H:Type)(aQ:TypeId×Value->H)(W:World)(base:Nat)(args:Array Value)(ds gs:List (DataW H))(before:List MemPlace)(Cb:∀(j:Nat) t v,Tryz.f7.params[j]?=some t->args[j]?=some v->Value.okWide Tryz.prog W .any base t v)(hW:DataW.Whole aQ Tryz.prog Tryz.f7.params.toList Rows.documentSeenSpec.vars false W args.toList ds gs before)(hL:laidMetH Tryz.prog Rows.documentSeenRow.laid W)(iZ:(DataW.weightsEach Tryz.prog (Tryz.f7.params.toList++(OpenSpec.ofChange Rows.documentSeenSpec).bare.plain.varTypes Tryz.prog) (ds++gs)).all (·<=reachBytes)=true) :
 Calls Tryz.prog 7 args W fun e W'=>∃v,e = .returned v/\Rows.documentSeenSpec.post aQ Tryz.prog Tryz.f7 false true false false W args v W':=by
 have hW':=hW;obtain⟨p,q,hA0,hV,rfl,Qz,wO⟩:=hW;have hA:DataW.TrodAll aQ Tryz.prog W 0 (fun _=>true) true Tryz.f7.params.toList args.toList ds p:=hA0;rw[Tryz.params7]at hA Cb iZ;obtain⟨v0,vs0,d0,ds0,p0,q0,jf,rfl,rfl,h0,r0⟩:=trodAll_cons hA;obtain⟨v1,vs1,d1,ds1,p1,q1,rfl,rfl,rfl,h1,r1⟩:=trodAll_cons r0;obtain⟨rfl,rfl,rfl⟩:=trodAll_nil r1;obtain rfl:args=#[v0,v1]:=by cases args;simp_all
 obtain⟨a0,k0,g0⟩:=awl (Cb 0 25 v0 rfl rfl) h0;obtain⟨a1,k1,g1⟩:=awm (Cb 1 33 v1 rfl rfl) h1 (fun n hn=>of_decide_eq_true (all_eq_true.1 iZ n (DataW.weights_mem_each (j:=1) (t:=33) rfl rfl n hn)));refine(Vy (Dc.ayn k0 k1.1 k1.2) (ajN rfl hL) (.cons g0 (.cons g1 .nil))).mono fun e W' ⟨he,hk⟩=>?_;subst he;exact⟨_,rfl,Y9 (ds:=[d0,d1]) laidOut ak9 (slices_full_of _ full) rfl rfl (fun t ht=>by rw[Tryz.params7]at ht;have:(#[25,33]:Array TypeId).toList.all (fun t=>decide (t<Tryz.prog.types.size))=true:=zQ;exact of_decide_eq_true (all_eq_true.1 this t ht)) rfl Tryz.underlying4 hW' hk⟩
theorem pX(os:Os){H:Type}(aQ:TypeId×Value->H):∃places,DataW.whole aQ Tryz.prog ((World.doorLaid Tryz.prog 600 os).forCall (fun _ _=>0) ⟨#[],#[.agg #[.slice Option.none 0 0,.slice Option.none 0 0],.agg #[.int .i64 0,.int .i64 0,.int .i64 0,.slice Option.none 0 0,.int .i64 0,.string .empty,.int .i64 0,.int .i64 0,.int .i64 0,.int .i64 0,.int .i64 0,.int .i64 0,.int .i64 0,.string .empty,.string .empty,.int .i64 0,.bool false]],[]⟩).memory Tryz.f7.params.toList Rows.documentSeenSpec.vars false (#[.agg #[.slice Option.none 0 0,.slice Option.none 0 0],.agg #[.int .i64 0,.int .i64 0,.int .i64 0,.slice Option.none 0 0,.int .i64 0,.string .empty,.int .i64 0,.int .i64 0,.int .i64 0,.int .i64 0,.int .i64 0,.int .i64 0,.int .i64 0,.string .empty,.string .empty,.int .i64 0,.bool false]]:Array Value).toList 8=some ([.agg [.nil,.nil],.agg [.agg [.lit (.int .i64 0),.lit (.int .i64 0)],.lit (.int .i64 0),.nil,.agg [.lit (.int .i64 0),.lit (.string [])],.lit (.int .i64 0),.agg [.lit (.int .i64 0),.lit (.int .i64 0),.lit (.int .i64 0)],.agg [.lit (.int .i64 0),.lit (.int .i64 0),.lit (.int .i64 0)],.lit (.string []),.lit (.string []),.lit (.int .i64 0),.lit (.bool false)]],[],places) :=
 ⟨[],zQ⟩
set_option maxRecDepth 100000 in
theorem mE(os:Os)(started:os.Started)(H:Type)(aQ:TypeId×Value->H)(F:Stop.Interp) :
 ReturnsInHanded {} Tryz.checked os 7 .any ((OpenSpec.ofChange Rows.documentSeenSpec).preRow aQ Tryz.prog Tryz.f7 Rows.documentSeenRow.domain false Rows.documentSeenRow.laid) (((OpenSpec.ofChange Rows.documentSeenSpec).at F).post aQ Tryz.prog Tryz.f7 false true false false):=by
 obtain⟨places,hx⟩:=pX os aQ;refine returnsInHanded_of_row (C:=Tryz.checked) (s:=OpenSpec.ofChange Rows.documentSeenSpec) aU started zQ Tryz.func7
  (witness_row_at (enc:=aQ) (C:=Tryz.checked) false (World.doorLaid Tryz.prog 600 os) #[.agg #[.slice Option.none 0 0,.slice Option.none 0 0],.agg #[.int .i64 0,.int .i64 0,.int .i64 0,.slice Option.none 0 0,.int .i64 0,.string .empty,.int .i64 0,.int .i64 0,.int .i64 0,.int .i64 0,.int .i64 0,.int .i64 0,.int .i64 0,.string .empty,.string .empty,.int .i64 0,.bool false]] rfl zQ zQ zQ
   (OpenSpec.preRow_of_cond 8 hx zQ (fun k hk=>by cases hk) zQ (Zc os _))) ?_
 intro W base args ds gs before Cb hW _ _ iZ hL _ _;exact kV H aQ W base args ds gs before Cb hW hL iZ
theorem wo:jf1 Tryz.pinned.checked.prog 7 Tryz.f7 (OpenSpec.ofChange Rows.documentSeenSpec).bare Rows.documentSeenRow=true:=zQ
theorem AO:jf2 Tryz.pinned.checked.prog 7 Tryz.f7 (OpenSpec.ofChange Rows.documentSeenSpec).bare Rows.documentSeenRow=true:=zQ
theorem DF:jf3 Tryz.pinned.checked.prog 7 Tryz.f7 (OpenSpec.ofChange Rows.documentSeenSpec).bare Rows.documentSeenRow=true:=zQ
theorem El:jf4 Tryz.pinned.checked.prog 7 Tryz.f7 (OpenSpec.ofChange Rows.documentSeenSpec).bare Rows.documentSeenRow=true:=zQ
theorem Gd:jf5 Tryz.pinned.checked.prog 7 Tryz.f7 (OpenSpec.ofChange Rows.documentSeenSpec).bare Rows.documentSeenRow=true:=zQ
theorem Gv:jf6 Tryz.pinned.checked.prog 7 Tryz.f7 (OpenSpec.ofChange Rows.documentSeenSpec).bare Rows.documentSeenRow=true:=zQ
theorem Mr:jf7 Tryz.pinned.checked.prog 7 Tryz.f7 (OpenSpec.ofChange Rows.documentSeenSpec).bare Rows.documentSeenRow=true:=zQ
theorem M0:jf8 Tryz.pinned.checked.prog 7 Tryz.f7 (OpenSpec.ofChange Rows.documentSeenSpec).bare Rows.documentSeenRow=true:=zQ
theorem RS:jf9 Tryz.pinned.checked.prog 7 Tryz.f7 (OpenSpec.ofChange Rows.documentSeenSpec).bare Rows.documentSeenRow=true:=zQ
theorem vF:agQ Tryz.pinned.checked.prog 7 Tryz.f7 (OpenSpec.ofChange Rows.documentSeenSpec).bare Rows.documentSeenRow=true:=zQ
theorem vS:agR Tryz.pinned.checked.prog 7 Tryz.f7 (OpenSpec.ofChange Rows.documentSeenSpec).bare Rows.documentSeenRow=true:=zQ
theorem lu:joinedFacts Tryz.pinned.checked.prog 7 Tryz.f7 (OpenSpec.ofChange Rows.documentSeenSpec).bare Rows.documentSeenRow=true:=Wd wo AO DF El Gd Gv Mr M0 RS vF vS
end Go.Proofs.YtdacbkmlfcjcgaaGreatDoor
