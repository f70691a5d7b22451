import Derived.Test.YtihbnnkcemjflaaGreatDoorH7
set_option maxRecDepth 100000
set_option linter.unusedSimpArgs false
set_option linter.unusedVariables false
open List
noncomputable section
namespace Go.Proofs.YtihbnnkcemjflaaGreatDoor
open Go Go.Am Go.ChangeShapes Go.WideShapes Go.RowKit Go.eY Go.Mg
theorem aU:ownKnob Tryz.prog.godebug=Option.none:=zQ
theorem laidOut:laidOutB Tryz.prog=true:=zQ
theorem ak9:mapsRowed Tryz.prog=true:=zQ
theorem full:((List.range Tryz.prog.types.size).all fun t=>match Tryz.prog.underlying t with|some (.slice e)=>decide (0<Tryz.prog.cellsOf e)|_=>true)=true:=zQ
theorem ar0(H:Type)(aQ:TypeId×Value->H)(W:World)(base:Nat)(args:Array Value)(ds gs:List (DataW H))(before:List MemPlace)(Cb:∀(j:Nat) t v,Tryz.f7.params[j]?=some t->args[j]?=some v->Value.okWide Tryz.prog W .any base t v)(hW:DataW.Whole aQ Tryz.prog Tryz.f7.params.toList Rows.mergeAnyOrderSpec.vars false W args.toList ds gs before)(hL:laidMetH Tryz.prog Rows.mergeAnyOrderRow.laid W) :
 Calls Tryz.prog 7 args W fun e W'=>∃v,e = .returned v/\Rows.mergeAnyOrderSpec.post aQ Tryz.prog Tryz.f7 false true false false W args v W':=by
 have hW':=hW;obtain⟨p,q,hA0,hV,rfl,Qz,wO⟩:=hW;have hA:DataW.TrodAll aQ Tryz.prog W 0 (fun _=>true) true Tryz.f7.params.toList args.toList ds p:=hA0;rw[Tryz.params7]at hA Cb;obtain⟨v0,vs0,d0,ds0,p0,q0,jf,rfl,rfl,h0,r0⟩:=trodAll_cons hA;obtain⟨v1,vs1,d1,ds1,p1,q1,rfl,rfl,rfl,h1,r1⟩:=trodAll_cons r0;obtain⟨rfl,rfl,rfl⟩:=trodAll_nil r1;obtain rfl:args=#[v0,v1]:=by cases args;simp_all
 obtain⟨a0,k0,g0⟩:=KV (Cb 0 22 v0 rfl rfl) h0;obtain⟨a1,k1,g1⟩:=atO (Cb 1 45 v1 rfl rfl) h1;refine(Vy (Mg.atu k0.2 k0.1 k1.1 k1.2) (ajN rfl hL) (.cons g0 (.cons g1 .nil))).mono fun e W' ⟨he,hk⟩=>?_;subst he;exact⟨_,rfl,Y9 (ds:=[d0,d1]) laidOut ak9 (slices_full_of _ full) rfl rfl (fun t ht=>by rw[Tryz.params7]at ht;have:(#[22,45]:Array TypeId).toList.all (fun t=>decide (t<Tryz.prog.types.size))=true:=zQ;exact y18 (all_eq_true.1 this t ht)) rfl Tryz.underlying4 hW' hk⟩
theorem as5(os:Os){H:Type}(aQ:TypeId×Value->H):∃places,DataW.whole aQ Tryz.prog ((World.doorLaid Tryz.prog 600 os).forCall (fun _ _=>0) ⟨#[],#[.slice Option.none 0 0,.slice Option.none 0 0],[]⟩).memory Tryz.f7.params.toList Rows.mergeAnyOrderSpec.vars false (#[.slice Option.none 0 0,.slice Option.none 0 0]:Array Value).toList 8=some ([.nil,.nil],[],places) :=
 ⟨[],zQ⟩
set_option maxRecDepth 100000 in
theorem ar2(os:Os)(started:os.Started)(H:Type)(aQ:TypeId×Value->H)(F:Stop.Interp) :
 ReturnsInHanded {} Tryz.checked os 7 .any ((OpenSpec.ofChange Rows.mergeAnyOrderSpec).preRow aQ Tryz.prog Tryz.f7 Rows.mergeAnyOrderRow.domain false Rows.mergeAnyOrderRow.laid) (((OpenSpec.ofChange Rows.mergeAnyOrderSpec).at F).post aQ Tryz.prog Tryz.f7 false true false false):=by
 obtain⟨places,hx⟩:=as5 os aQ;refine returnsInHanded_of_row (C:=Tryz.checked) (s:=OpenSpec.ofChange Rows.mergeAnyOrderSpec) aU started zQ Tryz.func7
  (witness_row_at (enc:=aQ) (C:=Tryz.checked) false (World.doorLaid Tryz.prog 600 os) #[.slice Option.none 0 0,.slice Option.none 0 0] rfl zQ zQ zQ
   (OpenSpec.preRow_of_cond 8 hx zQ (fun k hk=>by cases hk) zQ (Zc os _))) ?_
 intro W base args ds gs before Cb hW _ _ _ hL _ _;exact ar0 H aQ W base args ds gs before Cb hW hL
theorem atf:jf1 Tryz.pinned.checked.prog 7 Tryz.f7 (OpenSpec.ofChange Rows.mergeAnyOrderSpec).bare Rows.mergeAnyOrderRow=true:=zQ
theorem atg:jf2 Tryz.pinned.checked.prog 7 Tryz.f7 (OpenSpec.ofChange Rows.mergeAnyOrderSpec).bare Rows.mergeAnyOrderRow=true:=zQ
theorem ath:jf3 Tryz.pinned.checked.prog 7 Tryz.f7 (OpenSpec.ofChange Rows.mergeAnyOrderSpec).bare Rows.mergeAnyOrderRow=true:=zQ
theorem ati:jf4 Tryz.pinned.checked.prog 7 Tryz.f7 (OpenSpec.ofChange Rows.mergeAnyOrderSpec).bare Rows.mergeAnyOrderRow=true:=zQ
theorem atj:jf5 Tryz.pinned.checked.prog 7 Tryz.f7 (OpenSpec.ofChange Rows.mergeAnyOrderSpec).bare Rows.mergeAnyOrderRow=true:=zQ
theorem atl:jf6 Tryz.pinned.checked.prog 7 Tryz.f7 (OpenSpec.ofChange Rows.mergeAnyOrderSpec).bare Rows.mergeAnyOrderRow=true:=zQ
theorem atm:jf7 Tryz.pinned.checked.prog 7 Tryz.f7 (OpenSpec.ofChange Rows.mergeAnyOrderSpec).bare Rows.mergeAnyOrderRow=true:=zQ
theorem atn:jf8 Tryz.pinned.checked.prog 7 Tryz.f7 (OpenSpec.ofChange Rows.mergeAnyOrderSpec).bare Rows.mergeAnyOrderRow=true:=zQ
theorem ato:jf9 Tryz.pinned.checked.prog 7 Tryz.f7 (OpenSpec.ofChange Rows.mergeAnyOrderSpec).bare Rows.mergeAnyOrderRow=true:=zQ
theorem as9:agQ Tryz.pinned.checked.prog 7 Tryz.f7 (OpenSpec.ofChange Rows.mergeAnyOrderSpec).bare Rows.mergeAnyOrderRow=true:=zQ
theorem ata:agR Tryz.pinned.checked.prog 7 Tryz.f7 (OpenSpec.ofChange Rows.mergeAnyOrderSpec).bare Rows.mergeAnyOrderRow=true:=zQ
theorem ar1:joinedFacts Tryz.pinned.checked.prog 7 Tryz.f7 (OpenSpec.ofChange Rows.mergeAnyOrderSpec).bare Rows.mergeAnyOrderRow=true:=Wd atf atg ath ati atj atl atm atn ato as9 ata
end Go.Proofs.YtihbnnkcemjflaaGreatDoor
