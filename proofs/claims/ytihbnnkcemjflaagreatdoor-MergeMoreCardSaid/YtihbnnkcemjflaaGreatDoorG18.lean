import Derived.Test.YtihbnnkcemjflaaGreatDoorG17
import Derived.KernelRfl
import Derived.Shelf.SlSortCmp.WholeK
set_option maxRecDepth 100000
set_option linter.unusedSimpArgs false
set_option linter.unusedVariables false

namespace Go.Am
open Go Go.Lib Go.Sort Go.Proofs Go.Shelf
section
variable {P:Program} {G:Nat→Option (List AV)} {V:View}
theorem step_wide (hG:HeapRep G V) {id:Nat} {obj obj':AObj} (hid:V.H[id]? = some obj) (hop:obj.open_=true) {w':World} (hk:∀ V':View,V'.w=w'→V'.H[id]? = some obj'→V'.ρ id=V.ρ id→ObjStep V V' id)
 (hh:∀ b,b<V.w.heap.size→b≠V.ρ id→w'.heap[b]? = V.w.heap[b]?) (hs:V.w.heap.size≤w'.heap.size) (h1:w'.os=V.w.os) (h2:w'.tape=V.w.tape) (h3:w'.output=V.w.output)
 (hob:∀ V':View,V'.w=w'→Step V V'→ObjRep V' (V.ρ id) obj') (hdr:V.w.drawn≤w'.drawn):∃ V',V'.w=w'∧V'.H=V.H.set id obj'∧V'.ρ=V.ρ∧Step V V'∧HeapRep G V':=by
 have hlt:=(List.getElem?_eq_some_iff.1 hid).1
 let V':View:={ w:=w',M:=V.M,H:=V.H.set id obj',ρ:=V.ρ }
 have hM:=hG.mutb id _ hid hop
 have Hs:V'.H[id]? = some obj':=by show (V.H.set id _)[id]? = _; rw [List.getElem?_set_self hlt]
 have Ho:∀ i,i≠id→V'.H[i]? = V.H[i]? := fun i hi=>by show (V.H.set id _)[i]? = _; rw [List.getElem?_set_ne (fun e=>hi e.symm)]
 have hl:V'.H.length=V.H.length:=by show (V.H.set id _).length=_; simp
 have ne:∀ i,i<V.H.length→i≠id→V.ρ i≠V.ρ id:=fun i hi hne e=>hne (hG.inj i id hi hlt e)
 have hst:Step V V':={
  os:=h1
  tape:=h2
  output:=h3
  size:=hs
  drawn:=hdr
  keep:=fun b hb hn=>⟨hh b hb fun e=>hn id hlt e.symm,Iff.rfl⟩
  data:=fun b hb hn=>⟨hh b hb fun e=>hn (e ▸ hM),hn⟩
  hlen:=Nat.le_of_eq hl.symm
  fresh:=fun i hi=>.inl ⟨by rw [hl] at hi; exact hi,rfl⟩
  obj:=fun i hi=>by
   by_cases e:i=id
   · subst e
     exact hk V' rfl Hs rfl
   · exact .refl hi (Ho i e) rfl (hh _ (hG.lt i hi) (ne i hi e)) }
 refine ⟨V',rfl,rfl,rfl,hst,?_⟩
 exact {
  lt:=fun i hi=>by rw [hl] at hi; exact Nat.lt_of_lt_of_le (hG.lt i hi) hs
  obj:=fun i o ho=>by
   by_cases e:i=id
   · subst e; rw [Hs] at ho; cases ho; exact hob V' rfl hst
   · rw [Ho i e] at ho
     have hi:=(List.getElem?_eq_some_iff.1 ho).1
     exact (hG.obj i o ho).step hst (hh _ (hG.lt i hi) (ne i hi e))
  inj:=fun i j hi hj=>by rw [hl] at hi hj; exact hG.inj i j hi hj
  mutb:=fun i o ho hop'=>by
   by_cases e:i=id
   · subst e; exact hM
   · rw [Ho i e] at ho; exact hG.mutb i o ho hop'
  glob:=hG.glob_step hst }
structure El (V:View) {α:Type} (oc:α→List AV) (k:Nat) (Q:α→Prop) where
 vs:List Value
 x:α
 len:vs.length=k
 one:∀ v∈vs,v.oneCell'=true
 rep:∀ j,j<k→PRep V.w V.M ((oc x).getD j .dead) (vs.getD j undef)
 ok:Q x
theorem sort_own {α:Type} {oc:α→List AV} {k:Nat} {Q:α→Prop} {cf:α→α→Int} {ρ:Ren} (L:SlLaysF0.n6 P ρ) (aE:∀ w,(isAgg (ρ.t 24)).run P w = .ok true w) (zE:∀ w,(Go.sizeOf (ρ.t 24)).run P w = .ok k w)
 (hlen:∀ x,(oc x).length=k) (hpure:∀ x,(oc x).all AV.pureB=true) (hS:SWO (ltOf fun a b:El V oc k Q=>cf a.x b.x)) {f:Nat} (eg:∀ args w,(callFunc f args).run P w = .ok (.enter f args) w)
 (hcmp:∀ x y,Q x→Q y→CallC P G f [.agg (oc x),.agg (oc y)] [] (.ret (int (cf x y))) []) (hG:HeapRep G V) {id gg:Nat} {xs:List α} (hH:V.H[id]? = some (.arr gg k false (xs.map oc))) (hne:xs≠[]) (hmax:xs.length<4611686018427387904) (hQ:∀ x∈xs,Q x)
 {v:Value} (hv:Rep V (.own id gg 0 xs.length) v):Calls P (ρ.f 6) #[v,.func (.func f) #[] #[]] V.w fun e w'=>e = .returned (.tuple #[])∧∃ (V':View) (xs':List α),V'.w=w'∧Step V V'∧HeapRep G V'∧V'.H=V.H.set id (.arr gg k false (xs'.map oc))∧xs'.Perm xs∧xs'.Pairwise (fun a b=>¬ cf b a<0):=by
 have hown:=rep_own hv
 unfold OwnOk at hown
 rw [hH] at hown
 obtain ⟨A,cap,c,t,rfl,hA,hle,hcm,hcell,hsize⟩:=hown.2.2 rfl
 have hpos:0<xs.length:=List.length_pos_iff.2 hne
 have hA':=hA (by omega)
 rw [Nat.zero_mul] at hA'
 subst hA'
 obtain ⟨t',c',hc',hsz,hrow,hel⟩:=hG.obj id _ hH
 rw [hcell] at hc'
 injection hc' with hc'
 injection hc' with e1 e2 e3
 subst e1 e2
 have hidl:=(List.getElem?_eq_some_iff.1 hH).1
 have hb:=hG.lt id hidl
 have hM:V.M (V.ρ id):=hG.mutb id _ hH rfl
 rw [List.length_map] at hsz hel
 have mk:∀ i:Fin xs.length,∃ E:El V oc k Q,E.x=xs[i]∧∀ j,j<k→c[i.1 * k+j]? = some (E.vs.getD j undef):=by
  intro i
  have hval:∀ j,j<k→∃ v,c[i.1 * k+j]? = some v∧v.oneCell'=true∧PRep V.w V.M ((oc xs[i]).getD j .dead) v:=fun j hj=>by
   obtain ⟨v,h1,h2,h3⟩:=hel i.1 j i.2 hj
   refine ⟨v,h1,h2,?_⟩
   have e:(xs.map oc).getD i.1 []=oc xs[i]:=by
    rw [List.getD_eq_getElem?_getD,List.getElem?_map,List.getElem?_eq_getElem i.2]; rfl
   rw [e] at h3
   refine pureB_sound ?_ h3
   have hp:=List.all_eq_true.1 (hpure xs[i])
   rw [List.getD_eq_getElem?_getD,List.getElem?_eq_getElem (by rw [hlen]; exact hj)]
   exact hp _ (List.getElem_mem _)
  have hg:∀ j (hj:j<k),(((List.range k).map fun j=>c.getD (i.1 * k+j) undef).getD j undef)=c.getD (i.1 * k+j) undef:=fun j hj=>by
   rw [List.getD_eq_getElem?_getD,List.getElem?_map,List.getElem?_range hj]; rfl
  have hgv:∀ j,j<k→c[i.1 * k+j]? = some (c.getD (i.1 * k+j) undef):=fun j hj=>by
   obtain ⟨v,h1,_⟩:=hval j hj
   rw [Array.getD_eq_getD_getElem?,h1]; rfl
  refine ⟨⟨(List.range k).map fun j=>c.getD (i.1 * k+j) undef,xs[i],by simp,fun v hv=>?_,fun j hj=>?_,hQ _ (List.getElem_mem _)⟩,rfl,fun j hj=>?_⟩
  · obtain ⟨j,hj,rfl⟩:=List.mem_map.1 hv
    obtain ⟨v,h1,h2,_⟩:=hval j (List.mem_range.1 hj)
    rw [Array.getD_eq_getD_getElem?,h1]
    exact h2
  · obtain ⟨v,h1,_,h3⟩:=hval j hj
    rw [hg j hj,Array.getD_eq_getD_getElem?,h1]
    exact h3
  · rw [hg j hj]; exact hgv j hj
 let el:Fin xs.length→El V oc k Q:=fun i=>(mk i).choose
 have hel1:∀ i,(el i).x=xs[i]:=fun i=>(mk i).choose_spec.1
 have hel2:∀ i j,j<k→c[i.1 * k+j]? = some ((el i).vs.getD j undef):=fun i=>(mk i).choose_spec.2
 let ls:List (El V oc k Q):=List.ofFn el
 have hls:ls.length=xs.length:=by simp [ls]
 have hlx:ls.map El.x=xs:=by
  apply List.ext_getElem (by simp [ls])
  intro i h1 h2
  simp [ls,hel1]
 haveI:Inhabited (El V oc k Q):=⟨el ⟨0,hpos⟩⟩
 have hholds:HoldsK (fun a:El V oc k Q=>a.vs) k V.w (V.ρ id) 0 ls.toArray:=by
  intro j hj
  rw [size_flatK] at hj
  have hk0:0<k:=by
   rcases Nat.eq_zero_or_pos k with h | h
   · exfalso
     have h0:ls.toArray.size * k=0:=Nat.mul_eq_zero.2 (.inr h)
     omega
   · exact h
  have hjm:j % k<k:=Nat.mod_lt _ hk0
  have hjs:j<xs.length * k:=by simpa [hls] using hj
  have hjd:j / k<xs.length:=Nat.div_lt_of_lt_mul (by rw [Nat.mul_comm]; exact hjs)
  have e:j / k * k+j % k=j:=by rw [Nat.mul_comm]; exact Nat.div_add_mod j k
  have hc:=hel2 ⟨j / k,hjd⟩ (j % k) hjm
  rw [e] at hc
  have e2:(flatK (fun a:El V oc k Q=>a.vs) k ls.toArray)[j]! = (el ⟨j / k,hjd⟩).vs.getD (j % k) undef:=by
   rw [get_flatK _ _ _ _ hj]
   have:ls.toArray[j / k]! = el ⟨j / k,hjd⟩:=by simp [ls,hjd]
   rw [this]
   have hh:j % k<(el ⟨j / k,hjd⟩).vs.length:=by rw [El.len]; exact hjm
   rw [getElem!_pos (el ⟨j / k,hjd⟩).vs _ hh,List.getD_eq_getElem?_getD,List.getElem?_eq_getElem hh]
   rfl
  constructor
  · show V.w.cell? ⟨V.ρ id,0+j,none⟩=some (_root_.id _)
    rw [_root_.id,e2,Nat.zero_add]
    simp [World.cell?,hcell,hc]
  · show V.w.frozen? ⟨V.ρ id,0+j,none⟩=false
    simp [World.frozen?,hcell]
 have hlsz:ls.toArray.size=xs.length:=by simp [hls]
 have hblk:∀ (n:Nat) (d:Array (El V oc k Q)) (os:Array Obj),(sortWorldK (fun a:El V oc k Q=>a.vs) k V.w (V.ρ id) 0 n d os).heap[V.ρ id]? = some (.cells (putCells _root_.id 0 (flatK (fun a:El V oc k Q=>a.vs) k d) c) t (0,0)):=fun n d os=>by
  unfold sortWorldK
  rw [heap_grow_old _ _ (by rw [size_putRowK]; exact hb)]
  show (V.w.heap.modify (V.ρ id) (onCells (putCells _root_.id 0 (flatK (fun a:El V oc k Q=>a.vs) k d))))[V.ρ id]? = _
  rw [Array.getElem?_modify,if_pos rfl,hcell]
  rfl
 have holds:∀ (n:Nat) (d:Array (El V oc k Q)) (os:Array Obj) (b:Nat),b<V.w.heap.size→b≠V.ρ id→(sortWorldK (fun a:El V oc k Q=>a.vs) k V.w (V.ρ id) 0 n d os).heap[b]? = V.w.heap[b]? := fun n d os b hb' hne=>by
  unfold sortWorldK
  rw [heap_grow_old _ _ (by rw [size_putRowK]; exact hb')]
  show (V.w.heap.modify (V.ρ id) _)[b]? = _
  rw [Array.getElem?_modify]
  simp [Ne.symm hne]
 have hcl:CmpLays P f #[] (fun a:El V oc k Q=>a.vs) k (fun a b=>cf a.x b.x) (V.ρ id) 0 ls.toArray.size V.w:=by
  intro m os dk _ x y
  have hW:∀ b,b<V.w.heap.size→¬ V.M b→(sortWorldK (fun a:El V oc k Q=>a.vs) k V.w (V.ρ id) 0 m dk os).heap[b]? = V.w.heap[b]?∧¬ (fun _:Nat=>False) b:=fun b hb' hm=>⟨holds m dk os b hb' fun e=>hm (e ▸ hM),fun h=>h⟩
  have hr:∀ z:El V oc k Q,Rep (view0 (sortWorldK (fun a:El V oc k Q=>a.vs) k V.w (V.ρ id) 0 m dk os)) (.agg (oc z.x)) (.agg z.vs.toArray):=fun z=>.pure _ _ (.agg _ _ (by rw [z.len,hlen]) fun j hj=>(z.rep j (by rwa [hlen] at hj)).step hW)
  have hcall:Calls P f #[.agg x.vs.toArray,.agg y.vs.toArray] (sortWorldK (fun a:El V oc k Q=>a.vs) k V.w (V.ρ id) 0 m dk os) fun e w'=>e = .returned (.int .i64 (cf x.x y.x))∧∃ q os',w'=Sort.grow ((sortWorldK (fun a:El V oc k Q=>a.vs) k V.w (V.ρ id) 0 m dk os).drewN q) os' :=
   (grow_calls (hcmp x.x y.x x.ok y.ok) (fun g cs h=>(hG.glob g cs h).step hW) (.cons (hr x) (.cons (hr y) ⟨rfl,fun j hj=>absurd hj (by simp)⟩))).mono fun e w' ⟨v,q,os',he,⟨V',_,hr⟩,hw⟩=>by
    have:v = .int .i64 (cf x.x y.x):=rep_toVal rfl hr
    subst this
    exact ⟨he,q,os',hw⟩
  exact hcall
 have hcon:=AnyQ.slices_SortFunc L k aE zE (fun a:El V oc k Q=>a.vs) (fun a=>a.len) (fun a=>a.one) (fun a b=>cf a.x b.x) hS f #[] (V.ρ id) 0 cap ls.toArray V.w eg hcl hholds hb (by omega)
 rw [hlsz] at hcon
 refine hcon.mono ?_
 rintro e w' ⟨rfl,d',n,os,⟨p1,_,p3⟩,hs,rfl⟩
 have hd:d'.size=xs.length:=by rw [p1,hlsz]
 rw [Array.extract_eq_self_of_le (by omega),Array.extract_eq_self_of_le (by omega)] at p3
 refine ⟨rfl,?_⟩
 have hx'l:(d'.toList.map El.x).length=xs.length:=by simp [hd]
 obtain ⟨V',v1,v2,v3,v4,v5⟩:=step_wide (obj':=.arr gg k false ((d'.toList.map El.x).map oc)) hG hH rfl (w':=sortWorldK (fun a:El V oc k Q=>a.vs) k V.w (V.ρ id) 0 n d' os)
  (fun V' hw hH' hρ=>by
   unfold ObjStep
   rw [hH,hH']
   refine .inr ⟨rfl,rfl,hρ,fun c0 t0 fr h0=>?_⟩
   rw [hcell] at h0
   injection h0 with h0
   injection h0 with q1 q2 q3
   subst q1 q2 q3
   exact ⟨_,by rw [hw]; exact hblk n d' os,by simp [putCells]⟩)
  (holds n d' os) (by unfold sortWorldK; rw [size_grow,size_putRowK]; show V.w.heap.size≤V.w.heap.size+_; omega) rfl rfl rfl
  (fun V' hw hst=>⟨t,_,by rw [hw]; exact hblk n d' os,by rw [List.length_map,hx'l]; simpa [putCells] using hsz,fun x hx=>by
   obtain ⟨z,_,rfl⟩:=List.mem_map.1 hx
   exact hlen z,fun i j hi hj=>by
   rw [List.length_map,hx'l] at hi
   have hid:i<d'.size:=by omega
   have hlt:i * k+j<d'.size * k:=by
    have:(i+1) * k≤d'.size * k:=Nat.mul_le_mul_right k hid
    rw [Nat.add_mul,Nat.one_mul] at this
    omega
   have hcs:i * k+j<c.size:=by
    rw [hd] at hlt
    omega
   have hk0:0<k:=by omega
   have d1:(i * k+j) / k=i:=by
    rw [Nat.mul_comm,Nat.mul_add_div hk0,Nat.div_eq_of_lt hj,Nat.add_zero]
   have d2:(i * k+j) % k=j:=by
    rw [Nat.mul_comm,Nat.mul_add_mod,Nat.mod_eq_of_lt hj]
   have hgi:d'[i]! = d'[i]:=by simp [hid]
   have hjl:j<d'[i].vs.length:=by rw [El.len]; exact hj
   refine ⟨d'[i].vs.getD j undef,?_,?_,?_⟩
   · rw [putCells,Array.getElem?_mapIdx,Array.getElem?_eq_getElem hcs]
     simp only [Option.map_some,Nat.zero_le,true_and,Nat.zero_add,size_flatK,Nat.sub_zero,_root_.id]
     rw [if_pos hlt,get_flatK _ _ _ _ hlt,d1,d2,hgi,getElem!_pos d'[i].vs _ hjl,List.getD_eq_getElem?_getD,List.getElem?_eq_getElem hjl]
     rfl
   · rw [List.getD_eq_getElem?_getD,List.getElem?_eq_getElem hjl]
     exact d'[i].one _ (List.getElem_mem _)
   · have e:((d'.toList.map El.x).map oc).getD i []=oc d'[i].x:=by
      rw [List.getD_eq_getElem?_getD,List.getElem?_map,List.getElem?_map,List.getElem?_eq_getElem (by simpa using hid)]
      simp
     rw [e]
     exact .pure _ _ ((d'[i].rep j hj).stepV hst)⟩)
  (by show V.w.drawn≤V.w.drawn+n; omega)
 refine ⟨V',d'.toList.map El.x,v1,v4,v5,v2,?_,?_⟩
 · have:=p3.map El.x
   rw [hlx] at this
   exact this
 · rw [List.pairwise_map,List.pairwise_iff_getElem]
   intro i j hi hj hij
   have h1:i<d'.size:=by simpa using hi
   have h2:j<d'.size:=by simpa using hj
   have:=hs i j (Nat.zero_le _) hij (by omega)
   have g1:d'[i]! = d'[i]:=by simp [h1]
   have g2:d'[j]! = d'[j]:=by simp [h2]
   rw [g1,g2] at this
   have:=of_decide_eq_false this
   simpa using this
end
end Go.Am
