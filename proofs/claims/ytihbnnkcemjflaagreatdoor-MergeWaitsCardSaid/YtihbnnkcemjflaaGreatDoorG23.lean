import Derived.Test.YtihbnnkcemjflaaGreatDoorG22
set_option maxRecDepth 100000
set_option linter.unusedSimpArgs false
set_option linter.unusedVariables false

namespace Go.Proofs.YtihbnnkcemjflaaGreatDoor
open Go Go.Am Go.ChangeShapes Go.WideShapes Go.RowKit Go.Seat Go.Mg
theorem own:ownKnob Tryz.prog.godebug=Option.none:=by kernel_rfl
theorem laidOut:laidOutB Tryz.prog=true:=by kernel_rfl
theorem rowed:mapsRowed Tryz.prog=true:=by kernel_rfl
theorem full:((List.range Tryz.prog.types.size).all fun t=>match Tryz.prog.underlying t with | some (.slice e)=>decide (0<Tryz.prog.cellsOf e) | _=>true)=true:=by kernel_rfl
theorem mergeWaits_contract (H:Type) (enc:TypeId × Value→H) (W:World) (base:Nat) (args:Array Value) (ds gs:List (DataW H)) (before:List MemPlace)
 (hval:∀ (j:Nat) t v,Tryz.f9.params[j]? = some t→args[j]? = some v→Value.okWide Tryz.prog W .any base t v)
 (hW:DataW.Whole enc Tryz.prog Tryz.f9.params.toList Rows.mergeWaitsSpec.vars false W args.toList ds gs before) (hL:laidMetH Tryz.prog Rows.mergeWaitsRow.laid W) :
 Calls Tryz.prog 9 args W fun e W'=>∃ v,e = .returned v∧Rows.mergeWaitsSpec.post enc Tryz.prog Tryz.f9 false true false false W args v W':=by
 have hW':=hW
 obtain ⟨p,q,hA0,hV,rfl,hfz,hnd⟩:=hW
 have hA:DataW.TrodAll enc Tryz.prog W 0 (fun _=>true) true Tryz.f9.params.toList args.toList ds p:=hA0
 rw [Tryz.params9] at hA hval
 obtain ⟨v0,vs0,d0,ds0,p0,q0,hargs,rfl,rfl,h0,r0⟩:=trodAll_cons hA
 obtain ⟨rfl,rfl,rfl⟩:=trodAll_nil r0
 obtain rfl:args=#[v0]:=by cases args; simp_all
 obtain ⟨a0,k0,g0⟩:=reads_ops (hval 0 22 v0 rfl rfl) h0
 refine (law_calls (Mg.waitsSpec_h k0.2 k0.1) (globs rfl hL) (.cons g0 .nil)).mono fun e W' ⟨he,hk⟩=>?_
 subst he
 exact ⟨_,rfl,law_post (ds:=[d0]) laidOut rowed (slices_full_of _ full) rfl rfl (fun t ht=>by rw [Tryz.params9] at ht; have:(#[22]:Array TypeId).toList.all (fun t=>decide (t<Tryz.prog.types.size))=true:=(by kernel_rfl); exact of_decide_eq_true (List.all_eq_true.1 this t ht)) rfl Tryz.underlying4 hW' hk⟩
theorem mergeWaits_reads (os:Os) {H:Type} (enc:TypeId × Value→H):∃ places,DataW.whole enc Tryz.prog ((World.doorLaid Tryz.prog 600 os).forCall (fun _ _=>0) ⟨#[],#[.slice Option.none 0 0],[]⟩).memory Tryz.f9.params.toList Rows.mergeWaitsSpec.vars false (#[.slice Option.none 0 0]:Array Value).toList 8=some ([.nil],[],places) :=
 ⟨[],by kernel_rfl⟩
set_option maxRecDepth 100000 in
theorem mergeWaits_lifted (os:Os) (started:os.Started) (H:Type) (enc:TypeId × Value→H) (F:Stop.Interp) :
 ReturnsInHanded {} Tryz.checked os 9 .any ((OpenSpec.ofChange Rows.mergeWaitsSpec).preRow enc Tryz.prog Tryz.f9 Rows.mergeWaitsRow.domain false Rows.mergeWaitsRow.laid) (((OpenSpec.ofChange Rows.mergeWaitsSpec).at F).post enc Tryz.prog Tryz.f9 false true false false):=by
 obtain ⟨places,hx⟩:=mergeWaits_reads os enc
 refine returnsInHanded_of_row (C:=Tryz.checked) (s:=OpenSpec.ofChange Rows.mergeWaitsSpec) own started (by kernel_rfl) Tryz.func9
  (witness_row_at (enc:=enc) (C:=Tryz.checked) false (World.doorLaid Tryz.prog 600 os) #[.slice Option.none 0 0] rfl (by kernel_rfl) (by kernel_rfl) (by kernel_rfl)
   (OpenSpec.preRow_of_cond 8 hx (by kernel_rfl) (fun k hk=>by cases hk) (by kernel_rfl) (door_met os _))) ?_
 intro W base args ds gs before hval hW _ _ _ hL _ _
 exact mergeWaits_contract H enc W base args ds gs before hval hW hL
theorem mergeWaits_q1:jf1 Tryz.pinned.checked.prog 9 Tryz.f9 (OpenSpec.ofChange Rows.mergeWaitsSpec).bare Rows.mergeWaitsRow=true:=by kernel_rfl
theorem mergeWaits_q2:jf2 Tryz.pinned.checked.prog 9 Tryz.f9 (OpenSpec.ofChange Rows.mergeWaitsSpec).bare Rows.mergeWaitsRow=true:=by kernel_rfl
theorem mergeWaits_q3:jf3 Tryz.pinned.checked.prog 9 Tryz.f9 (OpenSpec.ofChange Rows.mergeWaitsSpec).bare Rows.mergeWaitsRow=true:=by kernel_rfl
theorem mergeWaits_q4:jf4 Tryz.pinned.checked.prog 9 Tryz.f9 (OpenSpec.ofChange Rows.mergeWaitsSpec).bare Rows.mergeWaitsRow=true:=by kernel_rfl
theorem mergeWaits_q5:jf5 Tryz.pinned.checked.prog 9 Tryz.f9 (OpenSpec.ofChange Rows.mergeWaitsSpec).bare Rows.mergeWaitsRow=true:=by kernel_rfl
theorem mergeWaits_q6:jf6 Tryz.pinned.checked.prog 9 Tryz.f9 (OpenSpec.ofChange Rows.mergeWaitsSpec).bare Rows.mergeWaitsRow=true:=by kernel_rfl
theorem mergeWaits_q7:jf7 Tryz.pinned.checked.prog 9 Tryz.f9 (OpenSpec.ofChange Rows.mergeWaitsSpec).bare Rows.mergeWaitsRow=true:=by kernel_rfl
theorem mergeWaits_q8:jf8 Tryz.pinned.checked.prog 9 Tryz.f9 (OpenSpec.ofChange Rows.mergeWaitsSpec).bare Rows.mergeWaitsRow=true:=by kernel_rfl
theorem mergeWaits_q9:jf9 Tryz.pinned.checked.prog 9 Tryz.f9 (OpenSpec.ofChange Rows.mergeWaitsSpec).bare Rows.mergeWaitsRow=true:=by kernel_rfl
theorem mergeWaits_q10:jf10 Tryz.pinned.checked.prog 9 Tryz.f9 (OpenSpec.ofChange Rows.mergeWaitsSpec).bare Rows.mergeWaitsRow=true:=by kernel_rfl
theorem mergeWaits_q11:jf11 Tryz.pinned.checked.prog 9 Tryz.f9 (OpenSpec.ofChange Rows.mergeWaitsSpec).bare Rows.mergeWaitsRow=true:=by kernel_rfl
theorem mergeWaits_joined:joinedFacts Tryz.pinned.checked.prog 9 Tryz.f9 (OpenSpec.ofChange Rows.mergeWaitsSpec).bare Rows.mergeWaitsRow=true:=joined_of mergeWaits_q1 mergeWaits_q2 mergeWaits_q3 mergeWaits_q4 mergeWaits_q5 mergeWaits_q6 mergeWaits_q7 mergeWaits_q8 mergeWaits_q9 mergeWaits_q10 mergeWaits_q11
end Go.Proofs.YtihbnnkcemjflaaGreatDoor
