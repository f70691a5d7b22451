import Derived.Test.YtihbnnkcemjflaaGreatDoorG22
set_option maxRecDepth 100000
set_option linter.unusedSimpArgs false
set_option linter.unusedVariables false

namespace Go.Proofs.YtihbnnkcemjflaaGreatDoor
open Go Go.Am Go.ChangeShapes Go.WideShapes Go.RowKit Go.Seat Go.Mg
theorem own:ownKnob Tryz.prog.godebug=Option.none:=by kernel_rfl
theorem laidOut:laidOutB Tryz.prog=true:=by kernel_rfl
theorem rowed:mapsRowed Tryz.prog=true:=by kernel_rfl
theorem full:((List.range Tryz.prog.types.size).all fun t=>match Tryz.prog.underlying t with | some (.slice e)=>decide (0<Tryz.prog.cellsOf e) | _=>true)=true:=by kernel_rfl
theorem mergeMore_contract (H:Type) (enc:TypeId × Value→H) (W:World) (base:Nat) (args:Array Value) (ds gs:List (DataW H)) (before:List MemPlace)
 (hval:∀ (j:Nat) t v,Tryz.f10.params[j]? = some t→args[j]? = some v→Value.okWide Tryz.prog W .any base t v)
 (hW:DataW.Whole enc Tryz.prog Tryz.f10.params.toList Rows.mergeMoreSpec.vars false W args.toList ds gs before) (hL:laidMetH Tryz.prog Rows.mergeMoreRow.laid W) :
 Calls Tryz.prog 10 args W fun e W'=>∃ v,e = .returned v∧Rows.mergeMoreSpec.post enc Tryz.prog Tryz.f10 false true false false W args v W':=by
 have hW':=hW
 obtain ⟨p,q,hA0,hV,rfl,hfz,hnd⟩:=hW
 have hA:DataW.TrodAll enc Tryz.prog W 0 (fun _=>true) true Tryz.f10.params.toList args.toList ds p:=hA0
 rw [Tryz.params10] at hA hval
 obtain ⟨v0,vs0,d0,ds0,p0,q0,hargs,rfl,rfl,h0,r0⟩:=trodAll_cons hA
 obtain ⟨v1,vs1,d1,ds1,p1,q1,rfl,rfl,rfl,h1,r1⟩:=trodAll_cons r0
 obtain ⟨rfl,rfl,rfl⟩:=trodAll_nil r1
 obtain rfl:args=#[v0,v1]:=by cases args; simp_all
 obtain ⟨a0,k0,g0⟩:=reads_ops (hval 0 22 v0 rfl rfl) h0
 obtain ⟨a1,k1,g1⟩:=reads_ops (hval 1 22 v1 rfl rfl) h1
 refine (law_calls (Mg.moreSpec_h k0.2 k1.2 k0.1 k1.1) (globs rfl hL) (.cons g0 (.cons g1 .nil))).mono fun e W' ⟨he,hk⟩=>?_
 subst he
 exact ⟨_,rfl,law_post (ds:=[d0,d1]) laidOut rowed (slices_full_of _ full) rfl rfl (fun t ht=>by rw [Tryz.params10] at ht; have:(#[22,22]:Array TypeId).toList.all (fun t=>decide (t<Tryz.prog.types.size))=true:=(by kernel_rfl); exact of_decide_eq_true (List.all_eq_true.1 this t ht)) rfl Tryz.underlying4 hW' hk⟩
theorem mergeMore_reads (os:Os) {H:Type} (enc:TypeId × Value→H):∃ places,DataW.whole enc Tryz.prog ((World.doorLaid Tryz.prog 600 os).forCall (fun _ _=>0) ⟨#[],#[.slice Option.none 0 0,.slice Option.none 0 0],[]⟩).memory Tryz.f10.params.toList Rows.mergeMoreSpec.vars false (#[.slice Option.none 0 0,.slice Option.none 0 0]:Array Value).toList 8=some ([.nil,.nil],[],places) :=
 ⟨[],by kernel_rfl⟩
set_option maxRecDepth 100000 in
theorem mergeMore_lifted (os:Os) (started:os.Started) (H:Type) (enc:TypeId × Value→H) (F:Stop.Interp) :
 ReturnsInHanded {} Tryz.checked os 10 .any ((OpenSpec.ofChange Rows.mergeMoreSpec).preRow enc Tryz.prog Tryz.f10 Rows.mergeMoreRow.domain false Rows.mergeMoreRow.laid) (((OpenSpec.ofChange Rows.mergeMoreSpec).at F).post enc Tryz.prog Tryz.f10 false true false false):=by
 obtain ⟨places,hx⟩:=mergeMore_reads os enc
 refine returnsInHanded_of_row (C:=Tryz.checked) (s:=OpenSpec.ofChange Rows.mergeMoreSpec) own started (by kernel_rfl) Tryz.func10
  (witness_row_at (enc:=enc) (C:=Tryz.checked) false (World.doorLaid Tryz.prog 600 os) #[.slice Option.none 0 0,.slice Option.none 0 0] rfl (by kernel_rfl) (by kernel_rfl) (by kernel_rfl)
   (OpenSpec.preRow_of_cond 8 hx (by kernel_rfl) (fun k hk=>by cases hk) (by kernel_rfl) (door_met os _))) ?_
 intro W base args ds gs before hval hW _ _ _ hL _ _
 exact mergeMore_contract H enc W base args ds gs before hval hW hL
theorem mergeMore_q1:jf1 Tryz.pinned.checked.prog 10 Tryz.f10 (OpenSpec.ofChange Rows.mergeMoreSpec).bare Rows.mergeMoreRow=true:=by kernel_rfl
theorem mergeMore_q2:jf2 Tryz.pinned.checked.prog 10 Tryz.f10 (OpenSpec.ofChange Rows.mergeMoreSpec).bare Rows.mergeMoreRow=true:=by kernel_rfl
theorem mergeMore_q3:jf3 Tryz.pinned.checked.prog 10 Tryz.f10 (OpenSpec.ofChange Rows.mergeMoreSpec).bare Rows.mergeMoreRow=true:=by kernel_rfl
theorem mergeMore_q4:jf4 Tryz.pinned.checked.prog 10 Tryz.f10 (OpenSpec.ofChange Rows.mergeMoreSpec).bare Rows.mergeMoreRow=true:=by kernel_rfl
theorem mergeMore_q5:jf5 Tryz.pinned.checked.prog 10 Tryz.f10 (OpenSpec.ofChange Rows.mergeMoreSpec).bare Rows.mergeMoreRow=true:=by kernel_rfl
theorem mergeMore_q6:jf6 Tryz.pinned.checked.prog 10 Tryz.f10 (OpenSpec.ofChange Rows.mergeMoreSpec).bare Rows.mergeMoreRow=true:=by kernel_rfl
theorem mergeMore_q7:jf7 Tryz.pinned.checked.prog 10 Tryz.f10 (OpenSpec.ofChange Rows.mergeMoreSpec).bare Rows.mergeMoreRow=true:=by kernel_rfl
theorem mergeMore_q8:jf8 Tryz.pinned.checked.prog 10 Tryz.f10 (OpenSpec.ofChange Rows.mergeMoreSpec).bare Rows.mergeMoreRow=true:=by kernel_rfl
theorem mergeMore_q9:jf9 Tryz.pinned.checked.prog 10 Tryz.f10 (OpenSpec.ofChange Rows.mergeMoreSpec).bare Rows.mergeMoreRow=true:=by kernel_rfl
theorem mergeMore_q10:jf10 Tryz.pinned.checked.prog 10 Tryz.f10 (OpenSpec.ofChange Rows.mergeMoreSpec).bare Rows.mergeMoreRow=true:=by kernel_rfl
theorem mergeMore_q11:jf11 Tryz.pinned.checked.prog 10 Tryz.f10 (OpenSpec.ofChange Rows.mergeMoreSpec).bare Rows.mergeMoreRow=true:=by kernel_rfl
theorem mergeMore_joined:joinedFacts Tryz.pinned.checked.prog 10 Tryz.f10 (OpenSpec.ofChange Rows.mergeMoreSpec).bare Rows.mergeMoreRow=true:=joined_of mergeMore_q1 mergeMore_q2 mergeMore_q3 mergeMore_q4 mergeMore_q5 mergeMore_q6 mergeMore_q7 mergeMore_q8 mergeMore_q9 mergeMore_q10 mergeMore_q11
end Go.Proofs.YtihbnnkcemjflaaGreatDoor
