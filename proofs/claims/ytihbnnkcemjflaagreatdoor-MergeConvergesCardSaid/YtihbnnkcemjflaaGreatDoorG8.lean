import Derived.Test.YtihbnnkcemjflaaGreatDoorG7
set_option maxRecDepth 100000
set_option linter.unusedSimpArgs false
set_option linter.unusedVariables false
open List
noncomputable section
namespace Go.Proofs.YtihbnnkcemjflaaGreatDoor
open Go Go.Am Go.ChangeShapes Go.WideShapes Go.RowKit Go.eY Go.Mg
theorem aU:ownKnob Tryz.prog.godebug=Option.none:=zQ
theorem laidOut:laidOutB Tryz.prog=true:=zQ
theorem ak9:mapsRowed Tryz.prog=true:=zQ
theorem full:((List.range Tryz.prog.types.size).all fun t=>match Tryz.prog.underlying t with|some (.slice e)=>decide (0<Tryz.prog.cellsOf e)|_=>true)=true:=zQ
theorem wH(H:Type)(aQ:TypeId×Value->H)(W:World)(base:Nat)(args:Array Value)(ds gs:List (DataW H))(before:List MemPlace)(Cb:∀(j:Nat) t v,Tryz.f6.params[j]?=some t->args[j]?=some v->Value.okWide Tryz.prog W .any base t v)(hW:DataW.Whole aQ Tryz.prog Tryz.f6.params.toList Rows.mergeConvergesSpec.vars false W args.toList ds gs before)(hL:laidMetH Tryz.prog Rows.mergeConvergesRow.laid W) :
 Calls Tryz.prog 6 args W fun e W'=>∃v,e = .returned v/\Rows.mergeConvergesSpec.post aQ Tryz.prog Tryz.f6 false true false false W args v W':=by
 have hW':=hW;obtain⟨p,q,hA0,hV,rfl,Qz,wO⟩:=hW;have hA:DataW.TrodAll aQ Tryz.prog W 0 (fun _=>true) true Tryz.f6.params.toList args.toList ds p:=hA0;rw[Tryz.params6]at hA Cb;obtain⟨v0,vs0,d0,ds0,p0,q0,jf,rfl,rfl,h0,r0⟩:=trodAll_cons hA;obtain⟨v1,vs1,d1,ds1,p1,q1,rfl,rfl,rfl,h1,r1⟩:=trodAll_cons r0;obtain⟨v2,vs2,d2,ds2,p2,q2,rfl,rfl,rfl,h2,r2⟩:=trodAll_cons r1;obtain⟨rfl,rfl,rfl⟩:=trodAll_nil r2;obtain rfl:args=#[v0,v1,v2]:=by cases args;simp_all
 obtain⟨a0,k0,g0⟩:=KV (Cb 0 22 v0 rfl rfl) h0;obtain⟨a1,k1,g1⟩:=KV (Cb 1 22 v1 rfl rfl) h1;obtain⟨a2,k2,g2⟩:=VZ (Cb 2 37 v2 rfl rfl) h2;refine(Vy (Mg.Gh k2 k0.2 k1.2 k0.1 k1.1) (ajN rfl hL) (.cons g0 (.cons g1 (.cons g2 .nil)))).mono fun e W' ⟨he,hk⟩=>?_;subst he;exact⟨_,rfl,Y9 (ds:=[d0,d1,d2]) laidOut ak9 (slices_full_of _ full) rfl rfl (fun t ht=>by rw[Tryz.params6]at ht;have:(#[22,22,37]:Array TypeId).toList.all (fun t=>decide (t<Tryz.prog.types.size))=true:=zQ;exact of_decide_eq_true (all_eq_true.1 this t ht)) rfl Tryz.underlying4 hW' hk⟩
theorem zH(os:Os){H:Type}(aQ:TypeId×Value->H):∃places,DataW.whole aQ Tryz.prog ((World.doorLaid Tryz.prog 600 os).forCall (fun _ _=>0) ⟨#[],#[.slice Option.none 0 0,.slice Option.none 0 0,.int .u64 0],[]⟩).memory Tryz.f6.params.toList Rows.mergeConvergesSpec.vars false (#[.slice Option.none 0 0,.slice Option.none 0 0,.int .u64 0]:Array Value).toList 8=some ([.nil,.nil,.lit (.int .u64 0)],[],places) :=
 ⟨[],zQ⟩
set_option maxRecDepth 100000 in
theorem yw(os:Os)(started:os.Started)(H:Type)(aQ:TypeId×Value->H)(F:Stop.Interp) :
 ReturnsInHanded {} Tryz.checked os 6 .any ((OpenSpec.ofChange Rows.mergeConvergesSpec).preRow aQ Tryz.prog Tryz.f6 Rows.mergeConvergesRow.domain false Rows.mergeConvergesRow.laid) (((OpenSpec.ofChange Rows.mergeConvergesSpec).at F).post aQ Tryz.prog Tryz.f6 false true false false):=by
 obtain⟨places,hx⟩:=zH os aQ;refine returnsInHanded_of_row (C:=Tryz.checked) (s:=OpenSpec.ofChange Rows.mergeConvergesSpec) aU started zQ Tryz.func6
  (witness_row_at (enc:=aQ) (C:=Tryz.checked) false (World.doorLaid Tryz.prog 600 os) #[.slice Option.none 0 0,.slice Option.none 0 0,.int .u64 0] rfl zQ zQ zQ
   (OpenSpec.preRow_of_cond 8 hx zQ (fun k hk=>by cases hk) zQ (Zc os _))) ?_
 intro W base args ds gs before Cb hW _ _ _ hL _ _;exact wH H aQ W base args ds gs before Cb hW hL
theorem DN:jf1 Tryz.pinned.checked.prog 6 Tryz.f6 (OpenSpec.ofChange Rows.mergeConvergesSpec).bare Rows.mergeConvergesRow=true:=zQ
theorem DR:jf2 Tryz.pinned.checked.prog 6 Tryz.f6 (OpenSpec.ofChange Rows.mergeConvergesSpec).bare Rows.mergeConvergesRow=true:=zQ
theorem DT:jf3 Tryz.pinned.checked.prog 6 Tryz.f6 (OpenSpec.ofChange Rows.mergeConvergesSpec).bare Rows.mergeConvergesRow=true:=zQ
theorem DU:jf4 Tryz.pinned.checked.prog 6 Tryz.f6 (OpenSpec.ofChange Rows.mergeConvergesSpec).bare Rows.mergeConvergesRow=true:=zQ
theorem DV:jf5 Tryz.pinned.checked.prog 6 Tryz.f6 (OpenSpec.ofChange Rows.mergeConvergesSpec).bare Rows.mergeConvergesRow=true:=zQ
theorem DW:jf6 Tryz.pinned.checked.prog 6 Tryz.f6 (OpenSpec.ofChange Rows.mergeConvergesSpec).bare Rows.mergeConvergesRow=true:=zQ
theorem DX:jf7 Tryz.pinned.checked.prog 6 Tryz.f6 (OpenSpec.ofChange Rows.mergeConvergesSpec).bare Rows.mergeConvergesRow=true:=zQ
theorem DY:jf8 Tryz.pinned.checked.prog 6 Tryz.f6 (OpenSpec.ofChange Rows.mergeConvergesSpec).bare Rows.mergeConvergesRow=true:=zQ
theorem DZ:jf9 Tryz.pinned.checked.prog 6 Tryz.f6 (OpenSpec.ofChange Rows.mergeConvergesSpec).bare Rows.mergeConvergesRow=true:=zQ
theorem Ce:agQ Tryz.pinned.checked.prog 6 Tryz.f6 (OpenSpec.ofChange Rows.mergeConvergesSpec).bare Rows.mergeConvergesRow=true:=zQ
theorem Cg:agR Tryz.pinned.checked.prog 6 Tryz.f6 (OpenSpec.ofChange Rows.mergeConvergesSpec).bare Rows.mergeConvergesRow=true:=zQ
theorem yx:joinedFacts Tryz.pinned.checked.prog 6 Tryz.f6 (OpenSpec.ofChange Rows.mergeConvergesSpec).bare Rows.mergeConvergesRow=true:=Wd DN DR DT DU DV DW DX DY DZ Ce Cg
end Go.Proofs.YtihbnnkcemjflaaGreatDoor
