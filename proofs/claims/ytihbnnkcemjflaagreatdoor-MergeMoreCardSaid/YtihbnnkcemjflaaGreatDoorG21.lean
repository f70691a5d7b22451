import Derived.Test.YtihbnnkcemjflaaGreatDoorG20
import Derived.KernelRfl
import Derived.DeepKeys4
import Derived.Maps.Keyed
set_option maxRecDepth 100000
set_option linter.unusedSimpArgs false
set_option linter.unusedVariables false

namespace Go.Mg
open Go Go.Am Go.Proofs Go.Seat Go.Vec Go.Cdc Go.Ops Go.ChangeMaps
def dotV (a b:Int):Value:=.agg #[.int .i64 a,.int .i64 b]
def InR (a:Int):Prop := -9223372036854775808≤a∧a<9223372036854775808
theorem laid:laidOutB P=true:=by kernel_rfl
theorem InR.wf {n:Int} (h:InR n):(Lit.int .i64 n).wf=true:=by
 unfold InR at h
 simp [Lit.wf,IntKind.min,IntKind.max,IntKind.signed,IntKind.bits]; omega
theorem sz1:∃ n,P.types.size=n+1:=by
 have h:1≤P.types.size:=Nat.le_of_ble_eq_true (by kernel_rfl)
 exact ⟨P.types.size - 1,by omega⟩
theorem lits1 (d:Nat) {n:Int} (h:InR n):P.keyLits (d+1) 3 [.int .i64 n]=some [.int .i64 n]:=by
 simp [Program.keyLits,Tryz.underlying3,h.wf]
theorem keyedD:Maps.Keyed P 49:=Maps.Keyed.of_law (deep_law_laid laid (m:=2) (by decide) (Nat.le_of_ble_eq_true (by kernel_rfl)) (by kernel_rfl) (by kernel_rfl))
theorem keyD {a b:Int} (ha:InR a) (hb:InR b):∃ l,keyOf P 49 (dotV a b)=some l:=by
 have h1:(P.keyType 49 && (dotV a b).formed P 49)=true:=by kernel_rfl
 have h2:P.keyLits (P.types.size+1) 49 (dotV a b).cells.toList=([P.keyLits P.types.size 3 [.int .i64 a],P.keyLits P.types.size 3 [.int .i64 b]].mapM id).map List.flatten:=by kernel_rfl
 obtain ⟨n,hn⟩:=sz1
 refine ⟨.string (keyBytes [.int .i64 a,.int .i64 b]),?_⟩
 unfold keyOf
 rw [Tryz.underlying49]
 show (if (P.keyType 49 && (dotV a b).formed P 49)=true then _ else none)=_
 rw [if_pos h1,h2,hn,lits1 n ha,lits1 n hb]
 rfl
theorem dotV_inj {a b a' b':Int} (h:dotV a b=dotV a' b'):a=a'∧b=b':=by
 simp only [dotV,Value.agg.injEq,Array.mk.injEq,List.cons.injEq,Value.int.injEq,true_and,and_true] at h
 exact h
theorem kput_cases:∀ (m:List OP) (o:OP),((∀ x∈m,dt x≠dt o)∧kput m o=m++[o])∨∃ us x bs,m=us++x::bs∧dt x=dt o∧kput m o=if cm o x<0 then us++o::bs else m
 | [],o=>.inl ⟨fun _ h=>(by cases h),rfl⟩
 | x::m,o=>by
  unfold kput
  by_cases e:dt x=dt o
  · rw [if_pos e]
    exact .inr ⟨[],x,m,rfl,e,rfl⟩
  · rw [if_neg e]
    rcases kput_cases m o with ⟨h1,h2⟩ | ⟨us,y,bs,rfl,h2,h3⟩
    · refine .inl ⟨fun z hz=>?_,by rw [h2]; rfl⟩
      rcases List.mem_cons.1 hz with rfl | hz
      · exact e
      · exact h1 z hz
    · refine .inr ⟨x::us,y,bs,rfl,h2,?_⟩
      rw [h3]
      split<;>rfl
abbrev Rgd (o:OP):Prop:=InR o.dv∧InR o.sq
theorem en_keys {m:List OP} (h:∀ x∈m,Rgd x):∀ e∈m.map en,∃ l,keyOf P 49 e.1=some l:=fun e he=>by
 obtain ⟨x,hx,rfl⟩:=List.mem_map.1 he
 exact keyD (h x hx).1 (h x hx).2
theorem kV_dt {x o:OP} (h:kV x=dotV o.dv o.sq):dt x=dt o:=by
 obtain ⟨h1,h2⟩:=dotV_inj h
 show (x.dv,x.sq)=(o.dv,o.sq)
 rw [h1,h2]
theorem dt_kV {x o:OP} (h:dt x=dt o):kV x=dotV o.dv o.sq:=by
 injection h with h1 h2
 show dotV x.dv x.sq=_
 rw [h1,h2]
theorem en_none {m:List OP} (h:∀ x∈m,Rgd x) {o:OP} (ho:Rgd o) (hn:∀ x∈m,dt x≠dt o) (z:AV):MapGet P 49 (m.map en) (dotV o.dv o.sq) z z false :=
 ⟨keyedD,keyD ho.1 ho.2,en_keys h,.inr ⟨rfl,rfl,fun e he hq=>by
  obtain ⟨x,hx,rfl⟩:=List.mem_map.1 he
  exact hn x hx (kV_dt hq)⟩⟩
theorem en_get {m:List OP} (h:∀ x∈m,Rgd x) {o x:OP} (ho:Rgd o) (hx:x∈m) (e:dt x=dt o) (z:AV):MapGet P 49 (m.map en) (dotV o.dv o.sq) z (op x) true :=
 ⟨keyedD,keyD ho.1 ho.2,en_keys h,.inl ⟨rfl,List.mem_map.2 ⟨x,hx,by show (kV x,op x)=_; rw [dt_kV e]⟩⟩⟩
theorem en_new {m:List OP} (h:∀ x∈m,Rgd x) {o:OP} (ho:Rgd o) (hn:∀ x∈m,dt x≠dt o):MapPut P 49 (m.map en) (dotV o.dv o.sq) (op o) ((m++[o]).map en) :=
 ⟨keyedD,keyD ho.1 ho.2,en_keys h,.inr ⟨fun e he hq=>by
  obtain ⟨x,hx,rfl⟩:=List.mem_map.1 he
  exact hn x hx (kV_dt hq),by rw [List.map_append]; rfl⟩⟩
theorem en_put {us bs:List OP} {o x:OP} (h:∀ y∈us++x::bs,Rgd y) (ho:Rgd o) (e:dt x=dt o):MapPut P 49 ((us++x::bs).map en) (dotV o.dv o.sq) (op o) ((us++o::bs).map en) :=
 ⟨keyedD,keyD ho.1 ho.2,en_keys h,.inl ⟨us.map en,bs.map en,op x,by rw [List.map_append,List.map_cons]; show _++(kV x,op x)::_=_; rw [dt_kV e],by rw [List.map_append,List.map_cons]; rfl⟩⟩
theorem Gd.rng {o:OP} (h:Gd o):Rgd o:=⟨h.1.dv,h.1.sq⟩
theorem Gd.okn {o:OP} (h:Gd o):Okn o:=⟨by have:=h.2.cx; omega,h.1.kd,h.1.f3⟩
theorem kadd_gd {m:List OP} {o:OP} (hm:Gvs m) (ho:Gd o):Gvs (kadd m o):=by
 unfold kadd
 split
 rename_i hk
 have ho:Gv o:=⟨ho,hk⟩
 · rcases kput_cases m o with ⟨_,h2⟩ | ⟨us,x,bs,rfl,_,h3⟩
   · rw [h2]
     intro y hy
     rcases List.mem_append.1 hy with hy | hy
     · exact hm y hy
     · rw [List.mem_singleton.1 hy]; exact ho
   · rw [h3]
     split
     · intro y hy
       rcases List.mem_append.1 hy with hy | hy
       · exact hm y (List.mem_append_left _ hy)
       · rcases List.mem_cons.1 hy with rfl | hy
         · exact ho
         · exact hm y (by simp [hy])
     · exact hm
 · exact hm
theorem en_ids (m:List OP) (n:Nat):∀ e∈m.map en,e.2.idsLt n=true:=fun e he=>by
 obtain ⟨x,_,rfl⟩:=List.mem_map.1 he
 rfl
theorem ki_run (ls:List (List OP)) (k:Nat) (l:List OP) (hl:l.length≤1000000) (hg:Gds l) (hcmp:∀ x y,Gv x→Gv y→Cq 65 [op x,op y] (int (cm x y))) :
 ∀ n i (m:List OP),l.length - i=n→i≤l.length→Gvs m→Rq 0 36 1 (kiS ls (m.map en) k l i) (.exit 2) (kiX ls ((known m (l.drop i)).map en) k):=by
 intro n
 induction n with
 | zero =>
  intro i m hn hi hm
  have e:l.drop i=[]:=List.drop_of_length_le (by omega)
  rw [e]
  exact ki_e ls (m.map en) k i l (by omega) trivial
 | succ n ih =>
  intro i m hn hi hm
  have hlt:i<l.length:=by omega
  have hx:l[i]? = some l[i]:=List.getElem?_eq_getElem hlt
  have ho:Gd l[i]:=hg _ (List.getElem_mem _)
  have hc:=check_c l[i] ho.okn
  have hd:l.drop i=l[i]::l.drop (i+1):=List.drop_eq_getElem_cons hlt
  have next:=ih (i+1) (kadd m l[i]) (by omega) (by omega) (kadd_gd hm ho)
  rw [hd]
  show RunL P G none 0 _ _ _ (kiX ls ((known (kadd m l[i]) (l.drop (i+1))).map en) k)
  unfold kadd at next ⊢
  by_cases hok:okO l[i]=true
  · have h0:chkOE l[i]=0:=of_decide_eq_true hok
    rw [h0] at hc
    rw [if_pos hok] at next ⊢
    rcases kput_cases m l[i] with ⟨h1,h2⟩ | ⟨us,x,bs,rfl,h2,h3⟩
    · rw [h2] at next ⊢
      exact ki_n ls (m.map en) _ k i l l[i] hl (by omega) hx hc (en_none (fun x hx=>(hm x hx).1.rng) ho.rng h1 _) (en_new (fun x hx=>(hm x hx).1.rng) ho.rng h1) _ _ ⟨en_ids _ _,next⟩
    · have hxm:x∈us++x::bs:=by simp
      have hgx:Gv x:=hm x hxm
      rw [h3] at next ⊢
      by_cases hlt':cm l[i] x<0
      · rw [if_pos hlt'] at next ⊢
        exact ki_y ls _ _ k i l l[i] x (cm l[i] x) hl (by omega) hx hc (en_get (fun y hy=>(hm y hy).1.rng) ho.rng hxm h2 _) (hcmp _ _ ⟨ho,hok⟩ hgx) hlt' (en_put (fun y hy=>(hm y hy).1.rng) ho.rng h2) _ _ ⟨en_ids _ _,next⟩
      · rw [if_neg hlt'] at next ⊢
        exact ki_s ls _ k i l l[i] x (cm l[i] x) hl (by omega) hx hc (en_get (fun y hy=>(hm y hy).1.rng) ho.rng hxm h2 _) (hcmp _ _ ⟨ho,hok⟩ hgx) hlt' _ _ ⟨en_ids _ _,next⟩
  · rw [if_neg hok] at next ⊢
    exact ki_b ls (m.map en) k i l l[i] (chkOE l[i]) (fun h=>hok (decide_eq_true h)) hl (by omega) hx hc _ _ ⟨en_ids _ _,next⟩
theorem known_append (m l r:List OP):known m (l++r)=known (known m l) r:=List.foldl_append
theorem known_gd {l:List OP}:∀ {m:List OP},Gvs m→Gds l→Gvs (known m l):=by
 induction l with
 | nil=>exact fun h _=>h
 | cons o l ih=>exact fun hm hl=>ih (kadd_gd hm (hl o List.mem_cons_self)) fun x hx=>hl x (List.mem_cons_of_mem _ hx)
theorem kn_run (ls:List (List OP)) (hls:ls.length≤1000000) (hl:∀ l∈ls,l.length≤1000000∧Gds l) (hcmp:∀ x y,Gv x→Gv y→Cq 65 [op x,op y] (int (cm x y))) :
 ∀ n k (m:List OP),ls.length - k=n→k≤ls.length→Gvs m→Rq 0 36 0 (knS ls (m.map en) k) (.exit 0) { env:=slots 48 [(3,.mp 0)],H:=[.map ((known m (ls.drop k).flatten).map en)] }:=by
 intro n
 induction n with
 | zero =>
  intro k m hn hk hm
  have e:ls.drop k=[]:=List.drop_of_length_le (by omega)
  rw [e]
  exact kn_e ls (m.map en) k (by omega) trivial
 | succ n ih =>
  intro k m hn hk hm
  have hlt:k<ls.length:=by omega
  have hx:ls[k]? = some ls[k]:=List.getElem?_eq_getElem hlt
  have hg:=hl ls[k] (List.getElem_mem _)
  have hd:ls.drop k=ls[k]::ls.drop (k+1):=List.drop_eq_getElem_cons hlt
  have hI:=ki_run ls k ls[k] hg.1 hg.2 hcmp _ 0 m rfl (Nat.zero_le _) hm
  rw [List.drop_zero] at hI
  have next:=ih (k+1) (known m ls[k]) (by omega) (by omega) (known_gd hm hg.2)
  rw [hd,List.flatten_cons,known_append]
  exact kn_o ls (m.map en) _ k ls[k] hls (by omega) hx hI _ _ next
theorem known_c (ls:List (List OP)) (hls:ls.length≤1000000) (hl:∀ l∈ls,l.length≤1000000∧Gds l) (hcmp:∀ x y,Gv x→Gv y→Cq 65 [op x,op y] (int (cm x y))) :
 CallC P G 36 [.sl 1 true (lls ls)] [] (.ret (.mp 0)) [.map ((known [] ls.flatten).map en)] :=
 known_w ls _ (kn_run ls hls hl hcmp _ 0 [] rfl (Nat.zero_le _) (fun _ h=>(by cases h))) trivial
end Go.Mg


namespace Go.Mg
open Go Go.Am Go.Proofs Go.Seat Go.Vec Go.Cdc Go.Ops
theorem kput_len:∀ (m:List OP) (o:OP),(kput m o).length≤m.length+1
 | [],_=>Nat.le_refl _
 | x::m,o=>by
  unfold kput
  have:=kput_len m o
  split
  · split<;>simp
  · simp only [List.length_cons]; omega
theorem known_len:∀ (l m:List OP),(known m l).length≤m.length+l.length
 | [],m=>Nat.le_refl _
 | o::l,m=>by
  have h1:=known_len l (kadd m o)
  have h2:(kadd m o).length≤m.length+1:=by
   unfold kadd
   split
   · exact kput_len m o
   · omega
  show (known (kadd m o) l).length≤_
  simp only [List.length_cons]
  omega
noncomputable def oH:List OP→List AObj
 | []=>[]
 | o::v=>[.gone,.gone,.gone,.gone,.gone,.gone,.gone,.arr v.length 17 false (ocs (o::v))]
theorem sorted_own (l:List OP) (hl:l.length≤1000000) (hg:Gds l):CallC P G 35 [.md true ((known [] l).map en)] [] (.ret (cO (uni l))) (oH (uni l)):=by
 have hk:=known_len l []
 have hs:=sorted_c (known [] l) (uni l) (by simp at hk; omega) (known_gd (fun _ h=>(by cases h)) hg) (fun s hp hs=>sort_uni hg hp hs) (sortnil_w _ trivial) compare_c
 cases e:uni l with
 | nil =>
  rw [e] at hs
  exact sorted_w0 _ hs
 | cons o v =>
  rw [e] at hs
  exact (sorted_w1 _ v.length (o::v).length (o::v) hs).heapSub ⟨.inr trivial,.inl rfl,.inl rfl,.inl rfl,.inl rfl,.inl rfl,.inl rfl,.inl rfl,trivial⟩
theorem ocs_pure (l:List OP):∀ c∈ocs l,c.all AV.pureB=true:=fun c hc=>by
 obtain ⟨o,_,rfl⟩:=List.mem_map.1 hc
 rfl
theorem sorted_d (l:List OP) (hl:l.length≤1000000) (hg:Gds l):Cq 35 [.md true ((known [] l).map en)] (if uni l=[] then nilS else opl (uni l)):=by
 have hk:=known_len l []
 have hs:=sorted_c (known [] l) (uni l) (by simp at hk; omega) (known_gd (fun _ h=>(by cases h)) hg) (fun s hp hs=>sort_uni hg hp hs) (sortnil_w _ trivial) compare_c
 cases e:uni l with
 | nil =>
  rw [e] at hs
  exact sorted_w0 _ hs
 | cons o v =>
  rw [e] at hs
  rw [if_neg (by simp)]
  exact callC_of [kc [] (@values_w ((known [] l).map en) (trivial)),kc [0] (@hs),ko (Orc.frz (ocs (o::v))),kp (show ∀ x∈ocs (o::v),AV.idsInL [] x=true from ocs_ids (o::v)),kp (show v.length=v.length from rfl),kp (show List.take (o::v).length (List.drop 0 (ocs (o::v)))=ocs (o::v) from by rw [List.drop_zero,List.take_of_length_le (by rw [ocs_length]; exact Nat.le_refl _)]),kp (show (ocs (o::v)).length=(o::v).length from ocs_length _),kp (ocs_pure (o::v))]
end Go.Mg


namespace Go.Am
open Go
theorem frzMap_sound {G:Nat→Option (List AV)} {V:View} {id:Nat} {es:List (Value × AV)} {v:Value} (hH:V.H[id]? = some (.map es)) (hpu:∀ e∈es,∀ (V:View) (v:Value),Rep V e.2 v→PRep V.w V.M e.2 v) (hG:HeapRep G V) (hr:Rep V (.mp id) v) :
 ∃ V':View,V'.w=V.w∧V'.H=V.H.set id .gone∧Step V V'∧HeapRep G V'∧Rep V' (.md true es) v:=by
 have hlt:=(List.getElem?_eq_some_iff.1 hH).1
 obtain ⟨_,rfl⟩:=rep_mp hr
 obtain ⟨ents,clock,hb,hk,hd,hbo,hcl,hrr⟩:=hG.obj id _ hH
 let V':View:={ w:=V.w,M:=fun b=>V.M b∧b≠V.ρ id,H:=V.H.set id .gone,ρ:=V.ρ }
 have Hs:V'.H[id]? = some .gone:=by show (V.H.set id _)[id]? = _; rw [List.getElem?_set_self hlt]
 have Ho:∀ i,i≠id→V'.H[i]? = V.H[i]? := fun i hi=>by show (V.H.set id _)[i]? = _; rw [List.getElem?_set_ne (fun e=>hi e.symm)]
 have hl:V'.H.length=V.H.length:=by show (V.H.set id _).length=_; simp
 have hst:Step V V':={
  os:=rfl
  tape:=rfl
  output:=rfl
  size:=Nat.le_refl _
  drawn:=Nat.le_refl _
  keep:=fun b _ hn=>⟨rfl,⟨fun h=>h.1,fun h=>⟨h,fun e=>hn id hlt e.symm⟩⟩⟩
  data:=fun b _ hn=>⟨rfl,fun h=>hn h.1⟩
  hlen:=Nat.le_of_eq hl.symm
  fresh:=fun i hi=>.inl ⟨by rw [hl] at hi; exact hi,rfl⟩
  obj:=fun i hi=>by
   by_cases e:i=id
   · subst e
     unfold ObjStep
     rw [hH,Hs]
   · exact .refl hi (Ho i e) rfl rfl }
 refine ⟨V',rfl,rfl,hst,?_,.pure _ _ (.md true es es (.refl _) (V.ρ id) ents clock (fun h=>h.2 rfl) hb hk hd (fun j hj=>?_) fun _=>⟨by rw [hbo]; exact List.nodup_range,fun x hx=>?_⟩)⟩
 · exact {
    lt:=fun i hi=>by rw [hl] at hi; exact hG.lt i hi
    obj:=fun i ob ho=>by
     by_cases e:i=id
     · subst e
       rw [Hs] at ho
       cases ho
       trivial
     · rw [Ho i e] at ho
       exact (hG.obj i ob ho).step hst rfl
    inj:=fun i j hi hj e=>by rw [hl] at hi hj; exact hG.inj i j hi hj e
    mutb:=fun i ob ho hop=>by
     by_cases e:i=id
     · subst e; rw [Hs] at ho; cases ho; cases hop
     · rw [Ho i e] at ho
       exact ⟨hG.mutb i ob ho hop,fun he=>e (hG.inj i id (List.getElem?_eq_some_iff.1 ho).1 hlt he)⟩
    glob:=hG.glob_step hst }
 · have hm:∃ e∈es,e.2=atE es j:=by
    unfold atE; rw [List.getD_eq_getElem?_getD,List.getElem?_eq_getElem hj]; exact ⟨es[j],List.getElem_mem hj,rfl⟩
   obtain ⟨e,he,hee⟩:=hm
   have h1:=hrr j hj
   rw [← hee] at h1
   have h2:=hpu e he V _ h1
   rw [hee] at h2
   exact h2.stepV hst
 · have:x.born∈ents.map (·.born):=List.mem_map.2 ⟨x,hx,rfl⟩
   rw [hbo] at this
   rw [hcl]; exact List.mem_range.1 this
theorem CallC.frzMap {P:Program} {G:Nat→Option (List AV)} {f:FuncId} {W:List (Value × AV)} {out:AOut} (hp:∀ e∈W,∀ (V:View) (v:Value),Rep V e.2 v→PRep V.w V.M e.2 v) (hf:out.idFree=true) (hc:CallC P G f [.md true W] [] out []):CallC P G f [.mp 0] [.map W] out [.gone]:=by
 intro V vs hH hG hr
 obtain ⟨v,rfl⟩:∃ v,vs=[v]:=by
  have:=hr.1
  match vs,this with
  | [v],_=>exact ⟨v,rfl⟩
 obtain ⟨V1,k1,k2,k3,k4,k5⟩:=frzMap_sound (by rw [hH]; rfl) hp hG hr.head
 have hx:Reps V1 [.md true W] [v]:=.cons k5 .nil
 have hin:AV.idsInL [] [AV.md true W]=true:=rfl
 have r:=renL_none (at0 []) [AV.md true W] hin
 have:=CallC.frame hc k4 (e:=[]) List.nodup_nil (by simp) rfl (fun i o ho=>by simp at ho) (fun i o ho=>by simp at ho) hx r.1.symm (r.2 _)
 rw [AOut.ren_free hf,show backHeap [] V1.H []=V1.H by simp [backHeap,putBack],k2,k1,hH] at this
 exact this.mono fun e w' ⟨V2,a1,a2,a3,a4,a5⟩=>⟨V2,a1,k3.trans a2,a3,a4,a5⟩
end Go.Am
namespace Go.Mg
open Go Go.Am Go.Proofs Go.Seat Go.Vec Go.Cdc Go.Ops
theorem en_pure (m:List OP):∀ e∈m.map en,∀ (V:View) (v:Value),Rep V e.2 v→PRep V.w V.M e.2 v:=fun e he V v hr=>by
 obtain ⟨x,_,rfl⟩:=List.mem_map.1 he
 obtain ⟨vs,rfl,hl,ha⟩:=rep_agg (cs:=opc x) hr
 exact .agg (opc x) vs hl fun j hj=>pureB_sound (List.all_eq_true.1 (ocs_pure [x] (opc x) (by simp [ocs])) _ (by rw [List.getD_eq_getElem?_getD,List.getElem?_eq_getElem hj]; exact List.getElem_mem hj)) (ha j hj)
theorem en_idsIn (m:List OP):∀ e∈m.map en,AV.idsIn [] e.2=true:=fun e he=>by
 obtain ⟨x,_,rfl⟩:=List.mem_map.1 he
 exact (by kernel_rfl:AV.idsIn [] (op x)=true)
theorem union_w (a b:List OP) (W:List (Value × AV)) (hk:CallC P G 36 [.sl 1 true (lls [a,b])] [] (.ret (.mp 0)) [.map W]) (hs:CallC P G 35 [.mp 0] [.map W] (.ret nilS) [.gone]) (hw:∀ e∈W,AV.idsIn [] e.2=true) (h:True):Cq 14 [opl a,opl b] nilS:=by
 have hz1:∀ (e:Value × AV),e∈W→AV.idsIn [] e.2=true:=(by omega)
 have _:=h
 exact callC_of [kc [] hk,kp hz1,kc [0] hs,kp hz1]
theorem union_s (a b u:List OP) (W:List (Value × AV)) (hk:CallC P G 36 [.sl 1 true (lls [a,b])] [] (.ret (.mp 0)) [.map W]) (hs:CallC P G 35 [.mp 0] [.map W] (.ret (opl u)) [.gone]) (hw:∀ e∈W,AV.idsIn [] e.2=true) (h:True):Cq 14 [opl a,opl b] (opl u):=by
 have hz1:∀ (e:Value × AV),e∈W→AV.idsIn [] e.2=true:=(by omega)
 have _:=h
 exact callC_of [kc [] hk,kp hz1,kc [0] hs,kp hz1]
def oplN (u:List OP):AV:=if u=[] then nilS else opl u
theorem union_c (a b:List OP) (ha:a.length≤400000) (hb:b.length≤400000) (ga:Gds a) (gb:Gds b):Cq 14 [opl a,opl b] (oplN (uni (a++b))):=by
 have hg:Gds (a++b):=fun x hx=>(List.mem_append.1 hx).elim (ga x) (gb x)
 have hk:=known_c [a,b] (by simp) (fun l hl=>by
  rcases List.mem_cons.1 hl with rfl | hl
  · exact ⟨by omega,ga⟩
  · rw [List.mem_singleton.1 hl]; exact ⟨by omega,gb⟩) compare_c
 have e:[a,b].flatten=a++b:=by simp
 rw [e] at hk
 have hs:=sorted_d (a++b) (by rw [List.length_append]; omega) hg
 unfold oplN
 by_cases hu:uni (a++b)=[]
 · rw [if_pos hu] at hs ⊢
   exact union_w a b _ hk (CallC.frzMap (en_pure _) rfl hs) (en_idsIn _) trivial
 · rw [if_neg hu] at hs ⊢
   exact union_s a b _ _ hk (CallC.frzMap (en_pure _) rfl hs) (en_idsIn _) trivial
end Go.Mg


namespace Go.Mg
open Go Go.Am Go.Proofs Go.Seat Go.Vec Go.Cdc Go.Ops
def tal (d s n:Int):List AV:=[int d,int s,int n]
def tl1 (d s n:Int):AV:=.sl 3 false [tal d s n]
abbrev fnC (f:Nat):AV:=fnV f
theorem wi_w (d s:Int) (h1:0≤d) (h2:d<512) (h3:1≤s) (h4:s≤1048576) (h:(decide (s≤1048576))=(true)):Cq 152 [int d,int s] (Am.bool true):=by
 exact callC_out (Sub.bool_eq h) [ki ((0:Int)≤d),ki (d<512),ki ((1:Int)≤s)]
theorem tk0_l  (h:True):Rq 0 112 0 (sM 27 [(2,int 0),(3,int (-1)),(6,nilS),(7,int 0),(8,int 0)] []) (AEx.exit 0) (sM 27 [] []):=by
 have _:=h
 exact loop_exit [kY] (others 27 []) 0
theorem tk0_w (hL:Rq 0 112 0 { env:=slots 27 [(2,int 0),(3,int (-1)),(6,nilS),(7,int 0),(8,int 0)],H:=[] } (.exit 0) { env:=slots 27 [],H:=[] }) (h:True):Cq 112 [nilS] (int 0):=by
 have _:=h
 exact callC_of [kl (rG [(0,2),(4,2),(9,18)]) 0 hL]
theorem tk1_e (d s n l:Int) (h:True):Rq 0 112 0 (sM 27 [(2,int 0),(3,int l),(6,tl1 d s n),(7,int 1),(8,int 1)] []) (AEx.exit 0) (sM 27 [] []):=by
 have _:=h
 exact loop_exit [kY] (others 27 []) 0
theorem tk1_r (d s n:Int) (h1:0≤d) (hW:Cq 152 [int d,int s] (Am.bool true)) (ex:AEx) (s':St) (h:Rq 0 112 0 (sM 27 [(2,int 0),(3,int d),(6,.sl 3 false [[int d,int s,int n]]),(7,int 1),(8,int 1)] []) ex s'):Rq 0 112 0 (sM 27 [(2,int 0),(3,int (-1)),(6,tl1 d s n),(7,int 1),(8,int 0)] []) ex s':=by
 exact loop_next [kO,ko (Orc.elem [int d,int s,int n]),kp (show (0:Int)≤(0:Int)∧[tal d s n][Int.toNat 0]? = some [int d,int s,int n] from (⟨by decide,rfl⟩)),kc [] hW,kY,kj (d≤(-1:Int))] (others 27 [2,3,6,7,8]) 0 h
theorem tk1_w (d s n:Int) (hL:Rq 0 112 0 { env:=slots 27 [(2,int 0),(3,int (-1)),(6,tl1 d s n),(7,int 1),(8,int 0)],H:=[] } (.exit 0) { env:=slots 27 [],H:=[] }) (h:True):Cq 112 [tl1 d s n] (int 0):=by
 have _:=h
 exact callC_of [kl (rG [(0,2),(4,2),(9,18)]) 0 hL]
theorem td_w (d s n:Int) (h:True):Cq 278 [.agg (tal d s n)] (int d):=by
 have _:=h
 exact callC_of []
theorem tp_w (d s n:Int) (hD:Cq 278 [.agg (tal d s n)] (int d)) (hC:Cq 87 [int d,int d] (int 0)) (h:True):CallC P G 286 [.agg (tal d s n),int d,.ptr 0 0] [AObj.box [fnC 278]] (AOut.ret (int 0)) [AObj.box [fnC 278]]:=by
 have _:=h
 exact callC_of [kc [] hD,kc [] hC]
theorem tc0_w  (h:True):Cq 84 [nilS] nilS:=by
 have _:=h
 exact callC_of [kO]
theorem tc1_w (d s n:Int) (out:AOut) (H':List AObj) (h:(AOut.ret (AV.own 0 0 0 1)=out)∧([AObj.arr 0 3 false [[int d,int s,int n]]]=H')):CallC P G 84 [tl1 d s n] [] out H':=by
 have hz0:[[int d,int s,int n]]≠[]:=(by simp)
 obtain ⟨e1,eH⟩:=h
 exact CallC.heap (e1 ▸ ((show CallC P G 84 [tl1 d s n] [] (AOut.ret (AV.own 0 0 0 1)) [AObj.arr 0 3 false [[int d,int s,int n]]] from callC_of [kp hz0,kY,kp hz0,kBd 24]))) eH
theorem cc0_w  (h:True):Cq 82 [nilS] nilS:=by
 have _:=h
 exact callC_of [kO]
theorem cb0_w  (h:True):Cq 83 [nilS] nilS:=by
 have _:=h
 exact callC_of [kO]
theorem cm0_w  (h:True):Cq 85 [nilS] nilS:=by
 have _:=h
 exact callC_of [kO]
abbrev plF:AV:=.fn (.func 286) [] [.ptr 0 0]
abbrev dvB:AObj:=.box [fnC 278]
def tbS (l:AV) (d k i j:Int):St:={ env:=slots 49 [(0,l),(1,int d),(2,plF),(8,int k),(9,int i),(10,int j)],H:=[dvB] }
def tbX (l:AV) (d k i:Int):St:={ env:=slots 49 [(0,l),(1,int d),(2,plF),(8,int k),(9,int i)],H:=[dvB] }
theorem tb_e (l:AV) (d k i j:Int) (hij:¬ i<j) (hl:l=nilS) (h:True):Rq 1 285 0 (tbS nilS d k i j) (AEx.exit 0) (tbX nilS d k i):=by
 have _:=h
 exact loop_exit [kj (i<j)] (others 49 [0,1,2,8,9]) 1
theorem tb_e1 (d s n k i j:Int) (hij:¬ i<j) (h:True):Rq 1 285 0 (tbS (tl1 d s n) d k i j) (AEx.exit 0) (tbX (tl1 d s n) d k i):=by
 have _:=h
 exact loop_exit [kj (i<j)] (others 49 [0,1,2,8,9]) 1
theorem tb_r1 (d s n k:Int) (hC:CallC P G 286 [.agg (tal d s n),int d,.ptr 0 0] [dvB] (.ret (int 0)) [dvB]) (ex:AEx) (s':St) (h:Rq 1 285 0 (sM 49 [(0,.sl 3 false [[int d,int s,int n]]),(1,int d),(2,.fn (Fn.func 286) [] [.ptr 0 0]),(8,int k),(9,int 0),(10,int 0)] [.box [fnA 278]]) ex s'):Rq 1 285 0 (tbS (tl1 d s n) d k 0 1) ex s':=by
 exact loop_next [kO,ko (Orc.elem [int d,int s,int n]),kp (show (0:Int)≤(1:Int) from (by omega)),kp (show (0:Int)≤(0:Int)∧[tal d s n][Int.toNat (IntKind.wrap IntKind.i64 (Int.fdiv (IntKind.wrap IntKind.u64 (IntKind.wrap IntKind.i64 (0+1))) (2 ^ min (Int.toNat 1) (IntKind.bits IntKind.u64))))]? = some [int d,int s,int n] from (⟨by decide,rfl⟩)),kc [0] hC,kY] (others 49 [0,1,2,8,9,10]) 1 h
theorem tb0_w (d:Int) (hL:Rq 1 285 0 (tbS nilS d 0 0 0) (.exit 0) (tbX nilS d 0 0)) (h:True):CallC P G 285 [nilS,int d,plF] [dvB] (AOut.ret (AV.tup [int 0,Am.bool false])) [dvB]:=by
 have _:=h
 exact callC_of [kl (rG [(3,5),(11,38)]) 1 hL,kY]
theorem tb1_w (d s n:Int) (hC:CallC P G 286 [.agg (tal d s n),int d,.ptr 0 0] [dvB] (.ret (int 0)) [dvB]) (hL:Rq 1 285 0 (tbS (tl1 d s n) d 1 0 1) (.exit 0) (tbX (tl1 d s n) d 1 0)) (h:True):CallC P G 285 [tl1 d s n,int d,plF] [dvB] (AOut.ret (AV.tup [int 0,Am.bool true])) [dvB]:=by
 have _:=h
 exact callC_of [kl (rG [(3,5),(11,38)]) 1 hL,kO,ko (Orc.elem [int d,int s,int n]),kp (show (0:Int)≤(0:Int)∧[[int d,int s,int n]][Int.toNat 0]? = some [int d,int s,int n] from (⟨by decide,rfl⟩)),kc [0] hC]
theorem pl0_w (d s n:Int) (hB:CallC P G 285 [nilS,int d,plF] [dvB] (.ret (.tup [int 0,Am.bool false])) [dvB]) (h:True):Cq 277 [nilS,int d,fnC 278] (.tup [int 0,Am.bool false]):=by
 have _:=h
 exact callC_of [kc [0] hB]
theorem pl1_w (d s n:Int) (hB:CallC P G 285 [tl1 d s n,int d,plF] [dvB] (.ret (.tup [int 0,Am.bool true])) [dvB]) (h:True):Cq 277 [tl1 d s n,int d,fnC 278] (.tup [int 0,Am.bool true]):=by
 have _:=h
 exact callC_of [kc [0] hB]
theorem ti_w (d s n:Int) (out:AOut) (H':List AObj) (h:(AOut.ret (AV.own 0 0 0 1)=out)∧([AObj.arr 0 3 false [[int d,int s,int n]]]=H')):CallC P G 279 [.sl 3 true [],int 0,.sl 3 true [tal d s n]] [] out H':=by
 obtain ⟨e1,eH⟩:=h
 exact CallC.heap (e1 ▸ ((show CallC P G 279 [.sl 3 true [],int 0,.sl 3 true [tal d s n]] [] (AOut.ret (AV.own 0 0 0 1)) [AObj.arr 0 3 false [[int d,int s,int n]]] from callC_of [kSl (0:Int) (0:Int) (0:Int),kY,kO,kne [int d,int s,int n],kBd 24]))) eH
theorem ta0_w (d s n:Int) (hK:Cq 112 [nilS] (int 0)) (hW:Cq 152 [int d,int s] (Am.bool true)) (hP:Cq 277 [nilS,int d,fnC 278] (.tup [int 0,Am.bool false])) (hC:Cq 84 [nilS] nilS) (hI:Cq 279 [nilS,int 0,.sl 3 true [tal d s n]] (tl1 d s n)) (h:True):Cq 263 [nilS,dot (d,s),int n] (.tup [tl1 d s n,int 0]):=by
 have _:=h
 exact callC_of [kc [] hK,kY,kc [] hW,kY,kc [] hP,kc [] hC,kO,kc [] hI]
theorem ta1_w (d s n s2 n2:Int) (hs:¬ s≥s2) (hb : -9223372036854775808≤n+n2) (hb2:n+n2<9223372036854775808) (hK:Cq 112 [tl1 d s n] (int 0)) (hW:Cq 152 [int d,int s2] (Am.bool true)) (hP:Cq 277 [tl1 d s n,int d,fnC 278] (.tup [int 0,Am.bool true])) (hC:CallC P G 84 [tl1 d s n] [] (.ret (.own 0 0 0 1)) [.arr 0 3 false [tal d s n]]) (out:AOut) (H':List AObj) (h:(AOut.ret (AV.tup [AV.own 1 0 0 1,int 0])=out)∧([AObj.box [int d,int s2],AObj.arr 0 3 false [[int d,int s2,int (n+n2)]]]=H')):CallC P G 263 [tl1 d s n,dot (d,s2),int n2] [] out H':=by
 have hz5:0=0:=(rfl)
 have hz6:(0:Int)≤(0:Int)∧(0:Int)<(1:Int):=(by omega)
 have hz7:[tal d s n][0+Int.toNat 0]? = some [int d,int s,int n]:=(rfl)
 have hz9:(List.set [tal d s n] (0+Int.toNat 0) (splice [int d,int s,int n] (0+Field.offset #[Field.mk "Device" 3 0 false "" "" 0,Field.mk "Seq" 3 1 false "" "" 8,Field.mk "N" 3 2 false "" "" 16][1]) [int s2]))[0+Int.toNat 0]? = some [int d,int s2,int n]:=(rfl)
 obtain ⟨e1,eH⟩:=h
 exact CallC.heap (e1 ▸ ((show CallC P G 263 [tl1 d s n,dot (d,s2),int n2] [] (AOut.ret (AV.tup [AV.own 1 0 0 1,int 0])) [AObj.box [int d,int s2],AObj.arr 0 3 false [[int d,int s2,int (n+n2)]]] from callC_of [kc [] hK,kY,kc [] hW,kY,kc [] hP,kc [] hC,kp (show ∀ (x:List AV),x∈[tal d s n]→AV.idsInL [] x=true from (by exact (Am.allm_cons rfl Am.allm_nil))),kY,ko (Orc.elem [int d,int s,int n]),kp hz5,kp hz6,kp hz5,kp hz5,kp hz7,kj (s≥s2),ko (Orc.elem [int d,int s,int n]),ko (Orc.elem [int d,int s2,int n]),kp hz5,kp hz6,kp hz5,kp hz5,kp hz7,kp hz5,kp hz6,kp hz5,kp hz5,kp hz9,kW 64 (n+n2) (n+n2),ko (Orc.elem [int d,int s2,int n]),kp hz5,kp hz6,kp hz5,kp hz5,kp hz9]))) eH
end Go.Mg


namespace Go.Mg
open Go Go.Am Go.Proofs Go.Seat Go.Vec Go.Cdc Go.Ops
def fl (nm:ByteArray) (t:AV):List AV:=[int 3,str nm,nilS,nilS,t,nilS,nilS]
def pt3 (nm:ByteArray):AV:=.agg [int 3,str nm]
theorem ns_w (a:ByteArray) (r:Bool) (h:(!ByteArray.toList a == ByteArray.toList a)=(r)):Cq 119 [str a] (Am.bool r):=by
 exact callC_out (Sub.bool_eq h) []
theorem sc_w (a:ByteArray) (r:Int) (hn:Cq 119 [str a] (Am.bool false)) (h:((((Op.bytesLess (ByteArray.toList a) (ByteArray.toList a))=true)→(-1:Int)=(r))∧(((Op.bytesLess (ByteArray.toList a) (ByteArray.toList a))=false)→((((Op.bytesLess (ByteArray.toList a) (ByteArray.toList a) || ByteArray.toList a == ByteArray.toList a)=true)→0=r)∧(((Op.bytesLess (ByteArray.toList a) (ByteArray.toList a) || ByteArray.toList a == ByteArray.toList a)=false)→1=r))))):Cq 88 [str a,str a] (int r):=by
 let l1:List Itm:=[kc [] hn,kc [] hn,kY,kY]
 rcases Bool.eq_false_or_eq_true ((Op.bytesLess (ByteArray.toList a) (ByteArray.toList a))) with c1 | c1
 · have h:=h.1 c1
   exact callC_out (Sub.int_eq h) (l1++[kt c1])
 · have h:=h.2 c1
   rcases Bool.eq_false_or_eq_true ((Op.bytesLess (ByteArray.toList a) (ByteArray.toList a) || ByteArray.toList a == ByteArray.toList a)) with c2 | c2
   · have h:=h.1 c2
     exact callC_out (Sub.int_eq h) (l1++[kf c1,kf (show (!(Op.bytesLess (ByteArray.toList a) (ByteArray.toList a) || ByteArray.toList a == ByteArray.toList a))=false from (congrArg Bool.not (c2)))])
   · have h:=h.2 c2
     exact callC_out (Sub.int_eq h) (l1++[kf c1,kt (show (!(Op.bytesLess (ByteArray.toList a) (ByteArray.toList a) || ByteArray.toList a == ByteArray.toList a))=true from (congrArg Bool.not (c2)))])
theorem cp_w (nm:ByteArray) (hI:Cq 87 [int 3,int 3] (int 0)) (hS:Cq 88 [str nm,str nm] (int 0)) (hO:Cq 86 [.sl 1 true [[int 0],[int 0]]] (int 0)) (h:True):Cq 56 [pt3 nm,pt3 nm] (int 0):=by
 have _:=h
 exact callC_of [kc [] hI,kc [] hS,kc [] hO]
theorem a2_w (nm:ByteArray) (t:AV) (d s n:Int) (hC:Cq 56 [pt3 nm,pt3 nm] (int 0)) (h:True):Cq 55 [.agg (fl nm (tl1 d s n)),pt3 nm] (int 0):=by
 have _:=h
 exact callC_of [kc [] hC]
theorem of_w (d s n:Int) (h:True):Cq 114 [.agg (tal d s n)] (dot (d,s)):=by
 have _:=h
 exact callC_of []
abbrev cvF:AV:=.fn (.func 154) [] [.ptr 0 0,.ptr 1 0]
abbrev cvH (v:List D):List AObj:=[.box [vec v],.box [fnV 114]]
theorem cv1_w (v:List D) (d s n:Int) (hO:Cq 114 [.agg (tal d s n)] (dot (d,s))) (hC:Cq 28 [vec v,dot (d,s)] (Am.bool true)) (h:True):CallC P G 154 [.agg (tal d s n),.ptr 0 0,.ptr 1 0] (cvH v) (AOut.ret (Am.bool false)) (cvH v):=by
 have _:=h
 exact callC_of [kc [] hO,kc [] hC]
def ixT (v:List D) (d s n i:Int):St:={ env:=slots 19 [(0,tl1 d s n),(1,cvF),(4,int 0),(7,int 1),(8,int i)],H:=cvH v }
theorem it_r (v:List D) (d s n:Int) (hF:CallC P G 154 [.agg (tal d s n),.ptr 0 0,.ptr 1 0] (cvH v) (.ret (Am.bool false)) (cvH v)) (ex:AEx) (s':St) (h:Rq 2 194 0 (sM 19 [(0,.sl 3 false [[int d,int s,int n]]),(1,.fn (Fn.func 154) [] [.ptr 0 0,.ptr 1 0]),(4,int 0),(7,int 1),(8,int 1)] [.box [vec v],.box [fnA 114]]) ex s'):Rq 2 194 0 (ixT v d s n 0) ex s':=by
 exact loop_next [kO,ko (Orc.elem [int d,int s,int n]),kp (show (0:Int)≤(0:Int)∧[tal d s n][Int.toNat 0]? = some [int d,int s,int n] from (⟨by decide,rfl⟩)),kc [0,1] hF,kY] (others 19 [0,1,4,7,8]) 2 h
theorem it_e (v:List D) (d s n:Int) (h:True):Rq 2 194 0 (ixT v d s n 1) (AEx.exit 0) (St.mk (slots 19 []) (cvH v) []):=by
 have _:=h
 exact loop_exit [kY] (others 19 []) 2
theorem it_w (v:List D) (d s n:Int) (hL:Rq 2 194 0 (ixT v d s n 0) (.exit 0) { env:=slots 19 [],H:=cvH v }) (h:True):CallC P G 194 [tl1 d s n,cvF] (cvH v) (AOut.ret (int (-1))) (cvH v):=by
 have _:=h
 exact callC_of [kl (rG [(2,2),(5,2),(9,10)]) 2 hL]
theorem ct_w (v:List D) (d s n:Int) (hL:CallC P G 194 [tl1 d s n,cvF] (cvH v) (.ret (int (-1))) (cvH v)) (h:True):CallC P G 153 [tl1 d s n,cvF] (cvH v) (AOut.ret (Am.bool false)) (cvH v):=by
 have _:=h
 exact callC_of [kc [0,1] hL]
theorem cv_w (v:List D) (d s n:Int) (hL:CallC P G 153 [tl1 d s n,cvF] (cvH v) (.ret (Am.bool false)) (cvH v)) (h:True):Cq 113 [tl1 d s n,vec v,fnV 114] (Am.bool true):=by
 have _:=h
 exact callC_of [kc [0,1] hL]
theorem vl_w (nm:ByteArray) (v:List D) (d s n:Int) (hn:(nm.size:Int)≤64) (hK:Cq 112 [tl1 d s n] (int 0)) (hV:Cq 113 [tl1 d s n,vec v,fnV 114] (Am.bool true)) (h:True):Cq 81 [.agg (fl nm (tl1 d s n)),vec v] (Am.bool true):=by
 have _:=h
 exact callC_of [kY,kY,kO,kc [] hK,kO,kc [] hV,kO,ki ((↑(ByteArray.size nm):Int)≤64)]
def d0:AV:=.agg [nilS,nilS]
def fs1 (nm:ByteArray) (d s n:Int):AV:=.sl 7 false [fl nm (tl1 d s n)]
def d1 (v:List D) (nm:ByteArray) (d s n:Int):AV:=.agg [vec v,fs1 nm d s n]
theorem dk0_l  (h:True):Rq 0 50 0 (sM 40 [(1,.ptr 0 0),(2,int 0),(10,nilS),(11,int 0),(12,int 0)] [.box [nilS,nilS]]) (AEx.exit 0) (sM 40 [] [.box [nilS,nilS]]):=by
 have _:=h
 exact loop_exit [kY] (others 40 []) 1
theorem dk0_w (hK:Cq 46 [nilS] (int 0)) (hL:Rq 0 50 0 { env:=slots 40 [(1,.ptr 0 0),(2,int 0),(10,nilS),(11,int 0),(12,int 0)],H:=[.box [nilS,nilS]] } (.exit 0) { env:=slots 40 [],H:=[.box [nilS,nilS]] }) (h:True):Cq 50 [d0] (int 0):=by
 have _:=h
 exact callC_of [kc [] hK,kY,kl (rG [(0,1),(3,7),(13,27)]) 1 hL]
def dkS (v:List D) (nm:ByteArray) (d s n i:Int):St:={ env:=slots 40 [(1,.ptr 0 0),(2,int 0),(10,fs1 nm d s n),(11,int 1),(12,int i)],H:=[.box [vec v,fs1 nm d s n]] }
theorem dk1_r (v:List D) (nm:ByteArray) (d s n:Int) (hV:Cq 81 [.agg (fl nm (tl1 d s n)),vec v] (Am.bool true)) (ex:AEx) (s':St) (h:Rq 0 50 0 (sM 40 [(1,.ptr 0 0),(2,int 0),(10,.sl 7 false [[int 3,str nm,nilS,nilS,.sl 3 false [[int d,int s,int n]],nilS,nilS]]),(11,int 1),(12,int 1)] [.box [vec v,.sl 7 false [[int 3,str nm,nilS,nilS,.sl 3 false [[int d,int s,int n]],nilS,nilS]]]]) ex s'):Rq 0 50 0 (dkS v nm d s n 0) ex s':=by
 exact loop_next [kO,ko (Orc.elem [int 3,str nm,nilS,nilS,AV.sl 3 false [[int d,int s,int n]],nilS,nilS]),kp (show (0:Int)≤(0:Int)∧[fl nm (tl1 d s n)][Int.toNat 0]? = some [int 3,str nm,nilS,nilS,AV.sl 3 false [[int d,int s,int n]],nilS,nilS] from (⟨by decide,rfl⟩)),kc [] hV,kY,kY,kY] (others 40 [1,2,10,11,12]) 1 h
theorem dk1_e (v:List D) (nm:ByteArray) (d s n:Int) (h:True):Rq 0 50 0 (dkS v nm d s n 1) (AEx.exit 0) (sM 40 [] [.box [vec v,fs1 nm d s n]]):=by
 have _:=h
 exact loop_exit [kY] (others 40 []) 1
theorem dk1_w (v:List D) (nm:ByteArray) (d s n:Int) (hK:Cq 46 [vec v] (int 0)) (hL:Rq 0 50 0 (dkS v nm d s n 0) (.exit 0) { env:=slots 40 [],H:=[.box [vec v,fs1 nm d s n]] }) (h:True):Cq 50 [d1 v nm d s n] (int 0):=by
 have _:=h
 exact callC_of [kc [] hK,kY,kl (rG [(0,1),(3,7),(13,27)]) 1 hL]
end Go.Mg


namespace Go.Mg
open Go Go.Am Go.Proofs Go.Seat Go.Vec Go.Cdc Go.Ops
theorem co_w (nm:ByteArray) (d s n:Int) (hT:Cq 84 [tl1 d s n] (tl1 d s n)) (hC:Cq 82 [nilS] nilS) (hB:Cq 83 [nilS] nilS) (hM:Cq 85 [nilS] nilS) (h:True):Cq 53 [.agg (fl nm (tl1 d s n))] (.agg (fl nm (tl1 d s n))):=by
 have _:=h
 exact callC_of [kc [] hC,kc [] hB,kc [] hT,kc [] hC,kc [] hM]
abbrev apF:AV:=fnV 55
def fbS (l:AV) (nm:ByteArray) (k i j:Int):St:={ env:=slots 49 [(0,l),(2,apF),(4,.ptr 0 0),(8,int k),(9,int i),(10,int j)],H:=[.box [int 3,str nm]] }
def fbX (l:AV) (nm:ByteArray) (k i:Int):St:={ env:=slots 49 [(0,l),(2,apF),(4,.ptr 0 0),(8,int k),(9,int i)],H:=[.box [int 3,str nm]] }
theorem fb_e0 (nm:ByteArray) (k i j:Int) (hij:¬ i<j) (h:True):Rq 0 54 0 (fbS nilS nm k i j) (AEx.exit 0) (fbX nilS nm k i):=by
 have _:=h
 exact loop_exit [kj (i<j)] (others 49 [0,2,4,8,9]) 1
theorem fb0_w (nm:ByteArray) (hL:Rq 0 54 0 (fbS nilS nm 0 0 0) (.exit 0) (fbX nilS nm 0 0)) (h:True):Cq 54 [nilS,pt3 nm,apF] (.tup [int 0,Am.bool false]):=by
 have _:=h
 exact callC_of [kl (rG [(1,1),(3,1),(5,3),(11,38)]) 1 hL,kY]
def gbS (nm:ByteArray) (d s n i j:Int):St:={ env:=slots 49 [(0,.own 0 0 0 1),(2,apF),(4,.ptr 1 0),(8,int 1),(9,int i),(10,int j)],H:=[.arr 0 7 false [fl nm (tl1 d s n)],.box [int 3,str nm]] }
def gbX (nm:ByteArray) (d s n i:Int):St:={ env:=slots 49 [(0,.own 0 0 0 1),(2,apF),(4,.ptr 1 0),(8,int 1),(9,int i)],H:=[.arr 0 7 false [fl nm (tl1 d s n)],.box [int 3,str nm]] }
theorem gb_e (nm:ByteArray) (d s n i j:Int) (hij:¬ i<j) (h:True):Rq 1 54 0 (gbS nm d s n i j) (AEx.exit 0) (gbX nm d s n i):=by
 have _:=h
 exact loop_exit [kj (i<j)] (others 49 [0,2,4,8,9]) 2
theorem gb_r (nm:ByteArray) (d s n:Int) (hA:Cq 55 [.agg (fl nm (tl1 d s n)),pt3 nm] (int 0)) (ex:AEx) (s':St) (h:Rq 1 54 0 (sM 49 [(0,.own 0 0 0 1),(2,fnA 55),(4,.ptr 1 0),(8,int 1),(9,int 0),(10,int 0)] [.arr 0 7 false [[int 3,str nm,nilS,nilS,.sl 3 false [[int d,int s,int n]],nilS,nilS]],.box [int 3,str nm]]) ex s'):Rq 1 54 0 (gbS nm d s n 0 1) ex s':=by
 have hz1:0=0:=(rfl)
 exact loop_next [kO,ko (Orc.elem [int 3,str nm,nilS,nilS,AV.sl 3 false [[int d,int s,int n]],nilS,nilS]),kp (show (0:Int)≤(1:Int) from (by omega)),kp hz1,kR (0:Int) (1:Int),kp hz1,kp (show [fl nm (tl1 d s n)][0+Int.toNat (IntKind.wrap IntKind.i64 (Int.fdiv (IntKind.wrap IntKind.u64 (IntKind.wrap IntKind.i64 (0+1))) (2 ^ min (Int.toNat 1) (IntKind.bits IntKind.u64))))]? = some [int 3,str nm,nilS,nilS,AV.sl 3 false [[int d,int s,int n]],nilS,nilS] from (rfl)),kc [] hA,kY] (others 49 [0,2,4,8,9,10]) 2 h
theorem gb_w (nm:ByteArray) (d s n:Int) (hA:Cq 55 [.agg (fl nm (tl1 d s n)),pt3 nm] (int 0)) (hL:Rq 1 54 0 (gbS nm d s n 0 1) (.exit 0) (gbX nm d s n 0)) (h:True):CallC P G 54 [.own 0 0 0 1,pt3 nm,apF] [AObj.arr 0 7 false [fl nm (tl1 d s n)]] (AOut.ret (AV.tup [int 0,Am.bool true])) [AObj.arr 0 7 false [fl nm (tl1 d s n)]]:=by
 have hz0:0=0:=(rfl)
 have _:=h
 exact callC_of [kp hz0,kl (rG [(1,1),(3,1),(5,3),(11,38)]) 2 hL,kO,ko (Orc.elem [int 3,str nm,nilS,nilS,AV.sl 3 false [[int d,int s,int n]],nilS,nilS]),kp hz0,kR (0:Int) (1:Int),kp hz0,kp (show [[int 3,str nm,nilS,nilS,AV.sl 3 false [[int d,int s,int n]],nilS,nilS]][0+Int.toNat 0]? = some [int 3,str nm,nilS,nilS,AV.sl 3 false [[int d,int s,int n]],nilS,nilS] from (rfl)),kc [] hA,kp (show ∀ (x:List AV),x∈[[int 3,str nm,nilS,nilS,AV.sl 3 false [[int d,int s,int n]],nilS,nilS]]→AV.idsInL [] x=true from (by exact (Am.allm_cons rfl Am.allm_nil)))]
theorem fi_w (nm:ByteArray) (out:AOut) (H':List AObj) (h:(AOut.ret (AV.own 0 0 0 1)=out)∧([AObj.arr 0 7 false [[int 3,str nm,nilS,nilS,nilS,nilS,nilS]]]=H')):CallC P G 57 [.sl 7 true [],int 0,.sl 7 true [fl nm nilS]] [] out H':=by
 obtain ⟨e1,eH⟩:=h
 exact CallC.heap (e1 ▸ ((show CallC P G 57 [.sl 7 true [],int 0,.sl 7 true [fl nm nilS]] [] (AOut.ret (AV.own 0 0 0 1)) [AObj.arr 0 7 false [[int 3,str nm,nilS,nilS,nilS,nilS,nilS]]] from callC_of [kSl (0:Int) (0:Int) (0:Int),kY,kO,kne [int 3,str nm,nilS,nilS,nilS,nilS,nilS],kBd 144]))) eH
theorem st_w (nm:ByteArray) (t:AV) (d s n:Int) (out:AOut) (H':List AObj) (h:(AOut.ret (int 0)=out)∧([AObj.arr 0 7 false [[int 3,str nm,nilS,nilS,AV.sl 3 false [[int d,int s,int n]],nilS,nilS]]]=H')):CallC P G 264 [.apt 0 0 0 4,tl1 d s n,int 0] [AObj.arr 0 7 false [fl nm nilS]] out H':=by
 have hz0:0=0:=(rfl)
 obtain ⟨e1,eH⟩:=h
 exact CallC.heap (e1 ▸ ((show CallC P G 264 [.apt 0 0 0 4,tl1 d s n,int 0] [AObj.arr 0 7 false [fl nm nilS]] (AOut.ret (int 0)) [AObj.arr 0 7 false [[int 3,str nm,nilS,nilS,AV.sl 3 false [[int d,int s,int n]],nilS,nilS]]] from callC_of [kO,ko (Orc.elem [int 3,str nm,nilS,nilS,nilS,nilS,nilS]),kp hz0,kp hz0,kp (show [fl nm nilS][0]? = some [int 3,str nm,nilS,nilS,nilS,nilS,nilS] from (rfl))]))) eH
theorem su_w (nm:ByteArray) (d s n d0 s0 n0:Int) (out:AOut) (H':List AObj) (h:(AOut.ret (int 0)=out)∧([AObj.arr 0 7 false [[int 3,str nm,nilS,nilS,AV.sl 3 false [[int d,int s,int n]],nilS,nilS]]]=H')):CallC P G 264 [.apt 0 0 0 4,tl1 d s n,int 0] [AObj.arr 0 7 false [fl nm (tl1 d0 s0 n0)]] out H':=by
 have hz0:0=0:=(rfl)
 obtain ⟨e1,eH⟩:=h
 exact CallC.heap (e1 ▸ ((show CallC P G 264 [.apt 0 0 0 4,tl1 d s n,int 0] [AObj.arr 0 7 false [fl nm (tl1 d0 s0 n0)]] (AOut.ret (int 0)) [AObj.arr 0 7 false [[int 3,str nm,nilS,nilS,AV.sl 3 false [[int d,int s,int n]],nilS,nilS]]] from callC_of [kO,ko (Orc.elem [int 3,str nm,nilS,nilS,AV.sl 3 false [[int d0,int s0,int n0]],nilS,nilS]),kp hz0,kp hz0,kp (show [fl nm (tl1 d0 s0 n0)][0]? = some [int 3,str nm,nilS,nilS,AV.sl 3 false [[int d0,int s0,int n0]],nilS,nilS] from (rfl))]))) eH
theorem e5_w (o:OP) (nm:ByteArray) (hA:Cq 263 [nilS,dot (o.dv,o.sq),int o.n] (.tup [tl1 o.dv o.sq o.n,int 0])) (hS:CallC P G 264 [.apt 0 0 0 4,tl1 o.dv o.sq o.n,int 0] [.arr 0 7 false [fl nm nilS]] (.ret (int 0)) [.arr 0 7 false [fl nm (tl1 o.dv o.sq o.n)]]) (out:AOut) (H':List AObj) (h:(AOut.ret (int 0)=out)∧([AObj.arr 0 7 false [[int 3,str nm,nilS,nilS,AV.sl 3 false [[int o.dv,int o.sq,int o.n]],nilS,nilS]]]=H')):CallC P G 262 [.apt 0 0 0 0,op o] [AObj.arr 0 7 false [fl nm nilS]] out H':=by
 have hz0:0=0:=(rfl)
 have hz4:∀ (x:List AV),x∈[fl nm (tl1 o.dv o.sq o.n)]→AV.idsInL [] x=true:=(by exact (Am.allm_cons rfl Am.allm_nil))
 obtain ⟨e1,eH⟩:=h
 exact CallC.heap (e1 ▸ ((show CallC P G 262 [.apt 0 0 0 0,op o] [AObj.arr 0 7 false [fl nm nilS]] (AOut.ret (int 0)) [AObj.arr 0 7 false [[int 3,str nm,nilS,nilS,AV.sl 3 false [[int o.dv,int o.sq,int o.n]],nilS,nilS]]] from callC_of [ko (Orc.elem [int 3,str nm,nilS,nilS,nilS,nilS,nilS]),kp hz0,kp hz0,kp hz0,kp (show [fl nm nilS][0]? = some [int 3,str nm,nilS,nilS,nilS,nilS,nilS] from (rfl)),kc [] hA,kp hz0,kp hz0,kc [0] hS,kp hz4,kp (show ∀ (x:List AV),x∈[fl nm nilS]→AV.idsInL [] x=true from (by exact (Am.allm_cons rfl Am.allm_nil))),kp hz4]))) eH
theorem e6_w (o:OP) (nm:ByteArray) (s n n2:Int) (hA:Cq 263 [tl1 o.dv s n,dot (o.dv,o.sq),int o.n] (.tup [tl1 o.dv o.sq n2,int 0])) (hS:CallC P G 264 [.apt 0 0 0 4,tl1 o.dv o.sq n2,int 0] [.arr 0 7 false [fl nm (tl1 o.dv s n)]] (.ret (int 0)) [.arr 0 7 false [fl nm (tl1 o.dv o.sq n2)]]) (out:AOut) (H':List AObj) (h:(AOut.ret (int 0)=out)∧([AObj.arr 0 7 false [[int 3,str nm,nilS,nilS,AV.sl 3 false [[int o.dv,int o.sq,int n2]],nilS,nilS]]]=H')):CallC P G 262 [.apt 0 0 0 0,op o] [AObj.arr 0 7 false [fl nm (tl1 o.dv s n)]] out H':=by
 have hz0:0=0:=(rfl)
 have hz4:∀ (x:List AV),x∈[fl nm (tl1 o.dv o.sq n2)]→AV.idsInL [] x=true:=(by exact (Am.allm_cons rfl Am.allm_nil))
 obtain ⟨e1,eH⟩:=h
 exact CallC.heap (e1 ▸ ((show CallC P G 262 [.apt 0 0 0 0,op o] [AObj.arr 0 7 false [fl nm (tl1 o.dv s n)]] (AOut.ret (int 0)) [AObj.arr 0 7 false [[int 3,str nm,nilS,nilS,AV.sl 3 false [[int o.dv,int o.sq,int n2]],nilS,nilS]]] from callC_of [ko (Orc.elem [int 3,str nm,nilS,nilS,AV.sl 3 false [[int o.dv,int s,int n]],nilS,nilS]),kp hz0,kp hz0,kp hz0,kp (show [fl nm (tl1 o.dv s n)][0]? = some [int 3,str nm,nilS,nilS,AV.sl 3 false [[int o.dv,int s,int n]],nilS,nilS] from (rfl)),kc [] hA,kp hz0,kp hz0,kc [0] hS,kp hz4,kp (show ∀ (x:List AV),x∈[fl nm (tl1 o.dv s n)]→AV.idsInL [] x=true from (by exact (Am.allm_cons rfl Am.allm_nil))),kp hz4]))) eH
end Go.Mg


namespace Go.Vec
open Go Go.Am
structure Ok (v:List D):Prop where
 dots:∀ d∈v,isDotB d=true
 sorted:v.Pairwise fun p q=>p.1<q.1
theorem isDot_iff {d:D}:isDotB d=true↔0≤d.1∧d.1<512∧1≤d.2∧d.2≤1048576:=by
 simp only [isDotB,Bool.and_eq_true,decide_eq_true_eq]
 omega
theorem okN_iff {v:List D}:∀ n k,k+n=v.length→(okN v n k=true↔(∀ j,k≤j→∀ x,v[j]? = some x→isDotB x=true∧(j=0∨∃ y,v[j - 1]? = some y∧y.1<x.1)))
 | 0,k,h=>by
  simp only [okN,true_iff]
  intro j hj x hx
  rw [List.getElem?_eq_none (by omega)] at hx
  cases hx
 | n+1,k,h=>by
  have ih:=okN_iff (v:=v) n (k+1) (by omega)
  have hlt:k<v.length:=by omega
  simp only [okN,Bool.and_eq_true]
  rw [ih]
  have hx:v[k]? = some v[k]:=List.getElem?_eq_getElem hlt
  have hat:okAt v k=true↔(isDotB v[k]=true∧(k=0∨∃ y,v[k - 1]? = some y∧y.1<v[k].1)):=by
   simp only [okAt,hx,Bool.and_eq_true,Bool.or_eq_true,beq_iff_eq]
   refine and_congr_right fun _=>or_congr_right ?_
   cases hy:v[k - 1]? with
   | none=>simp
   | some y=>simp
  rw [hat]
  constructor
  · rintro ⟨h1,h2⟩ j hj x hjx
    rcases Nat.lt_or_eq_of_le hj with hj | rfl
    · exact h2 j hj x hjx
    · rw [hx] at hjx; cases hjx; exact h1
  · intro h'
    exact ⟨h' k (Nat.le_refl _) _ hx,fun j hj=>h' j (by omega)⟩
theorem ok_iff {v:List D}:okB v=true↔Ok v:=by
 unfold okB
 rw [okN_iff v.length 0 (by omega)]
 constructor
 · intro h
   refine ⟨fun d hd=>?_,?_⟩
   · obtain ⟨j,hj⟩:=List.mem_iff_getElem?.1 hd
     exact (h j (Nat.zero_le _) d hj).1
   · rw [List.pairwise_iff_getElem]
     have step:∀ j (h1:j+1<v.length),(v[j]'(by omega)).1<v[j+1].1:=fun j h1=>by
      rcases (h (j+1) (Nat.zero_le _) _ (List.getElem?_eq_getElem h1)).2 with h0 | ⟨y,hy,hlt⟩
      · omega
      · rw [Nat.add_sub_cancel,List.getElem?_eq_getElem (by omega)] at hy
        have hy':=Option.some.inj hy
        rw [← hy'] at hlt
        exact hlt
     have all:∀ m i (h1:i+m+1<v.length),(v[i]'(by omega)).1<(v[i+m+1]).1:=by
      intro m
      induction m with
      | zero=>intro i h1; exact step i h1
      | succ m ih=>intro i h1; exact Int.lt_trans (ih i (by omega)) (step (i+m+1) (by omega))
     intro i j hi hj hij
     have:=all (j - i - 1) i (by omega)
     have e:i+(j - i - 1)+1=j:=by omega
     simpa only [e] using this
 · intro h j _ x hx
   refine ⟨h.dots x (List.mem_of_getElem? hx),?_⟩
   by_cases h0:j=0
   · exact .inl h0
   · right
     obtain ⟨h1,h2⟩:=List.getElem?_eq_some_iff.1 hx
     refine ⟨v[j - 1]'(by omega),List.getElem?_eq_getElem (by omega),?_⟩
     have:=(List.pairwise_iff_getElem.1 h.sorted) (j - 1) j (by omega) h1 (by omega)
     rw [h2] at this
     exact this
theorem Ok.tail {d:D} {v:List D} (h:Ok (d::v)):Ok v:=⟨fun x hx=>h.dots x (List.mem_cons_of_mem _ hx),(List.pairwise_cons.1 h.sorted).2⟩
theorem Ok.lt {d:D} {v:List D} (h:Ok (d::v)):∀ x∈v,d.1<x.1:=(List.pairwise_cons.1 h.sorted).1
theorem Ok.nil:Ok []:=⟨by simp,.nil⟩
theorem atV_ne {dev:Int} {d:D} {v:List D} (h:d.1≠dev):atV dev (d::v)=atV dev v:=if_neg h
theorem atV_not {dev:Int}:∀ {v:List D},(∀ d∈v,d.1≠dev)→atV dev v=0
 | [],_=>rfl
 | d::v,h=>by rw [atV,if_neg (h d (by simp))]; exact atV_not fun x hx=>h x (List.mem_cons_of_mem _ hx)
theorem atV_mem {v:List D} (h:Ok v):∀ d∈v,atV d.1 v=d.2:=by
 induction v with
 | nil=>simp
 | cons x v ih =>
  intro d hd
  rcases List.mem_cons.1 hd with rfl | hd
  · rw [atV,if_pos rfl]
  · rw [atV,if_neg (by have:=h.lt d hd; omega)]
    exact ih h.tail d hd
theorem atV_pos {v:List D} (h:Ok v) {dev:Int} (hp:atV dev v≠0):∃ d∈v,d.1=dev∧d.2=atV dev v:=by
 by_cases hd:∃ d∈v,d.1=dev
 · obtain ⟨d,hd,rfl⟩:=hd
   exact ⟨d,hd,rfl,(atV_mem h d hd).symm⟩
 · exact absurd (atV_not fun d hm e=>hd ⟨d,hm,e⟩) hp
theorem atV_range {v:List D} (h:Ok v) (dev:Int):0≤atV dev v∧atV dev v≤1048576:=by
 by_cases hp:atV dev v=0
 · omega
 · obtain ⟨d,hd,_,he⟩:=atV_pos h hp
   have:=isDot_iff.1 (h.dots d hd)
   omega
theorem pr_spec:∀ n (a b:List D),a.length+b.length≤n→Ok a→Ok b →
 (prN n a b).Pairwise (fun p q=>p.1<q.1)∧(∀ p∈prN n a b,(∃ q∈a,q.1=p.1)∨(∃ q∈b,q.1=p.1))∧(∀ p∈prN n a b,p.2.1=atV p.1 a∧p.2.2=atV p.1 b) ∧
 (∀ q∈a,∃ p∈prN n a b,p.1=q.1)∧(∀ q∈b,∃ p∈prN n a b,p.1=q.1):=by
 intro n
 induction n with
 | zero =>
  intro a b hn ha hb
  have ea:a=[]:=List.eq_nil_of_length_eq_zero (by omega)
  have eb:b=[]:=List.eq_nil_of_length_eq_zero (by omega)
  subst ea eb
  simp [prN]
 | succ n ih =>
  intro a b hn ha hb
  match a,b,hn,ha,hb with
  | [],[],_,_,_=>simp [prN]
  | x::a,[],hn,ha,hb =>
   obtain ⟨i1,i2,i3,i4,_⟩:=ih a [] (by simp at hn ⊢; omega) ha.tail hb
   have low:∀ p∈prN n a [],x.1<p.1:=fun p hp=>by
    rcases i2 p hp with ⟨q,hq,e⟩ | ⟨q,hq,_⟩
    · have:=ha.lt q hq; omega
    · cases hq
   simp only [prN]
   refine ⟨List.pairwise_cons.2 ⟨low,i1⟩,fun p hp=>?_,fun p hp=>?_,fun q hq=>?_,fun q hq=>(by cases hq)⟩
   · rcases List.mem_cons.1 hp with rfl | hp
     · exact .inl ⟨x,by simp,rfl⟩
     · exact (i2 p hp).imp (fun ⟨q,h1,h2⟩=>⟨q,List.mem_cons_of_mem _ h1,h2⟩) id
   · rcases List.mem_cons.1 hp with rfl | hp
     · exact ⟨by rw [atV_mem ha x (by simp)],rfl⟩
     · have hne:x.1≠p.1:=by have:=low p hp; omega
       rw [atV_ne hne]
       exact i3 p hp
   · rcases List.mem_cons.1 hq with rfl | hq
     · exact ⟨_,List.mem_cons_self,rfl⟩
     · obtain ⟨p,h1,h2⟩:=i4 q hq
       exact ⟨p,List.mem_cons_of_mem _ h1,h2⟩
  | [],y::b,hn,ha,hb =>
   obtain ⟨i1,i2,i3,_,i5⟩:=ih [] b (by simp at hn ⊢; omega) ha hb.tail
   have low:∀ p∈prN n [] b,y.1<p.1:=fun p hp=>by
    rcases i2 p hp with ⟨q,hq,_⟩ | ⟨q,hq,e⟩
    · cases hq
    · have:=hb.lt q hq; omega
   simp only [prN]
   refine ⟨List.pairwise_cons.2 ⟨low,i1⟩,fun p hp=>?_,fun p hp=>?_,fun q hq=>(by cases hq),fun q hq=>?_⟩
   · rcases List.mem_cons.1 hp with rfl | hp
     · exact .inr ⟨y,by simp,rfl⟩
     · exact (i2 p hp).imp id (fun ⟨q,h1,h2⟩=>⟨q,List.mem_cons_of_mem _ h1,h2⟩)
   · rcases List.mem_cons.1 hp with rfl | hp
     · exact ⟨rfl,by rw [atV_mem hb y (by simp)]⟩
     · have hne:y.1≠p.1:=by have:=low p hp; omega
       refine ⟨(i3 p hp).1,?_⟩
       rw [atV_ne hne]
       exact (i3 p hp).2
   · rcases List.mem_cons.1 hq with rfl | hq
     · exact ⟨_,List.mem_cons_self,rfl⟩
     · obtain ⟨p,h1,h2⟩:=i5 q hq
       exact ⟨p,List.mem_cons_of_mem _ h1,h2⟩
  | x::a,y::b,hn,ha,hb =>
   simp only [prN]
   by_cases h1:x.1<y.1
   · rw [if_pos h1]
     obtain ⟨i1,i2,i3,i4,i5⟩:=ih a (y::b) (by simp at hn ⊢; omega) ha.tail hb
     have low:∀ p∈prN n a (y::b),x.1<p.1:=fun p hp=>by
      rcases i2 p hp with ⟨q,hq,e⟩ | ⟨q,hq,e⟩
      · have:=ha.lt q hq; omega
      · rcases List.mem_cons.1 hq with rfl | hq
        · omega
        · have:=hb.lt q hq; omega
     refine ⟨List.pairwise_cons.2 ⟨low,i1⟩,fun p hp=>?_,fun p hp=>?_,fun q hq=>?_,fun q hq=>?_⟩
     · rcases List.mem_cons.1 hp with rfl | hp
       · exact .inl ⟨x,by simp,rfl⟩
       · exact (i2 p hp).imp (fun ⟨q,h1,h2⟩=>⟨q,List.mem_cons_of_mem _ h1,h2⟩) id
     · rcases List.mem_cons.1 hp with rfl | hp
       · refine ⟨by rw [atV_mem ha x (by simp)],?_⟩
         rw [atV_not fun q hq=>?_]
         rcases List.mem_cons.1 hq with rfl | hq
         · simp only; omega
         · have:=hb.lt q hq; simp only; omega
       · have hne:x.1≠p.1:=by have:=low p hp; omega
         refine ⟨?_,(i3 p hp).2⟩
         rw [atV_ne hne]
         exact (i3 p hp).1
     · rcases List.mem_cons.1 hq with rfl | hq
       · exact ⟨_,List.mem_cons_self,rfl⟩
       · obtain ⟨p,k1,k2⟩:=i4 q hq
         exact ⟨p,List.mem_cons_of_mem _ k1,k2⟩
     · obtain ⟨p,k1,k2⟩:=i5 q hq
       exact ⟨p,List.mem_cons_of_mem _ k1,k2⟩
   · rw [if_neg h1]
     by_cases h2:y.1<x.1
     · rw [if_pos h2]
       obtain ⟨i1,i2,i3,i4,i5⟩:=ih (x::a) b (by simp at hn ⊢; omega) ha hb.tail
       have low:∀ p∈prN n (x::a) b,y.1<p.1:=fun p hp=>by
        rcases i2 p hp with ⟨q,hq,e⟩ | ⟨q,hq,e⟩
        · rcases List.mem_cons.1 hq with rfl | hq
          · omega
          · have:=ha.lt q hq; omega
        · have:=hb.lt q hq; omega
       refine ⟨List.pairwise_cons.2 ⟨low,i1⟩,fun p hp=>?_,fun p hp=>?_,fun q hq=>?_,fun q hq=>?_⟩
       · rcases List.mem_cons.1 hp with rfl | hp
         · exact .inr ⟨y,by simp,rfl⟩
         · exact (i2 p hp).imp id (fun ⟨q,h1,h2⟩=>⟨q,List.mem_cons_of_mem _ h1,h2⟩)
       · rcases List.mem_cons.1 hp with rfl | hp
         · refine ⟨?_,by rw [atV_mem hb y (by simp)]⟩
           rw [atV_not fun q hq=>?_]
           rcases List.mem_cons.1 hq with rfl | hq
           · simp only; omega
           · have:=ha.lt q hq; simp only; omega
         · have hne:y.1≠p.1:=by have:=low p hp; omega
           refine ⟨(i3 p hp).1,?_⟩
           rw [atV_ne hne]
           exact (i3 p hp).2
       · obtain ⟨p,k1,k2⟩:=i4 q hq
         exact ⟨p,List.mem_cons_of_mem _ k1,k2⟩
       · rcases List.mem_cons.1 hq with rfl | hq
         · exact ⟨_,List.mem_cons_self,rfl⟩
         · obtain ⟨p,k1,k2⟩:=i5 q hq
           exact ⟨p,List.mem_cons_of_mem _ k1,k2⟩
     · rw [if_neg h2]
       have hxy:x.1=y.1:=by omega
       obtain ⟨i1,i2,i3,i4,i5⟩:=ih a b (by simp at hn ⊢; omega) ha.tail hb.tail
       have low:∀ p∈prN n a b,x.1<p.1:=fun p hp=>by
        rcases i2 p hp with ⟨q,hq,e⟩ | ⟨q,hq,e⟩
        · have:=ha.lt q hq; omega
        · have:=hb.lt q hq; omega
       refine ⟨List.pairwise_cons.2 ⟨low,i1⟩,fun p hp=>?_,fun p hp=>?_,fun q hq=>?_,fun q hq=>?_⟩
       · rcases List.mem_cons.1 hp with rfl | hp
         · exact .inl ⟨x,by simp,rfl⟩
         · exact (i2 p hp).imp (fun ⟨q,h1,h2⟩=>⟨q,List.mem_cons_of_mem _ h1,h2⟩) (fun ⟨q,h1,h2⟩=>⟨q,List.mem_cons_of_mem _ h1,h2⟩)
       · rcases List.mem_cons.1 hp with rfl | hp
         · refine ⟨by rw [atV_mem ha x (by simp)],?_⟩
           simp only
           rw [hxy,atV_mem hb y (by simp)]
         · have hne:x.1≠p.1:=by have:=low p hp; omega
           have hne2:y.1≠p.1:=by have:=low p hp; omega
           rw [atV_ne hne,atV_ne hne2]
           exact i3 p hp
       · rcases List.mem_cons.1 hq with rfl | hq
         · exact ⟨_,List.mem_cons_self,rfl⟩
         · obtain ⟨p,k1,k2⟩:=i4 q hq
           exact ⟨p,List.mem_cons_of_mem _ k1,k2⟩
       · rcases List.mem_cons.1 hq with rfl | hq
         · exact ⟨_,List.mem_cons_self,hxy⟩
         · obtain ⟨p,k1,k2⟩:=i5 q hq
           exact ⟨p,List.mem_cons_of_mem _ k1,k2⟩
theorem dev_pr:∀ n (a b:List D),devN n a b=(prN n a b).map (·.1)
 | 0,_,_=>rfl
 | _+1,[],[]=>rfl
 | n+1,x::a,[]=>by simp only [devN,prN,List.map_cons,dev_pr n a []]
 | n+1,[],y::b=>by simp only [devN,prN,List.map_cons,dev_pr n [] b]
 | n+1,x::a,y::b=>by
  simp only [devN,prN]
  by_cases h1:x.1<y.1
  · have h2:¬ y.1<x.1:=by omega
    simp only [if_pos h1,if_neg h2,List.map_cons,dev_pr n a (y::b)]
  · by_cases h2:y.1<x.1
    · simp only [if_neg h1,if_pos h2,List.map_cons,dev_pr n (x::a) b]
    · simp only [if_neg h1,if_neg h2,List.map_cons,dev_pr n a b]
structure Rule (tk:Int→Int→Int):Prop where
 zero:tk 0 0=0
 lo:∀ x y,0≤x→0≤y→0≤tk x y
 hi:∀ x y,x≤1048576→y≤1048576→tk x y≤1048576
theorem rule_max:Rule gmax:=⟨rfl,fun x y _ _=>by unfold gmax; split<;>omega,fun x y _ _=>by unfold gmax; split<;>omega⟩
theorem merge_mem {tk:Int→Int→Int} {a b:List D} (ha:Ok a) (hb:Ok b) {d:D} (h:d∈mergeV tk a b) :
 d.2=tk (atV d.1 a) (atV d.1 b)∧d.2 > 0∧((∃ q∈a,q.1=d.1)∨(∃ q∈b,q.1=d.1)):=by
 obtain ⟨p,hp,he⟩:=List.mem_filterMap.1 h
 obtain ⟨_,i2,i3,_,_⟩:=pr_spec _ a b (Nat.le_refl _) ha hb
 unfold ruleF at he
 split at he
 · rename_i hpos
   cases he
   obtain ⟨e1,e2⟩:=i3 p hp
   exact ⟨by rw [e1,e2],hpos,i2 p hp⟩
 · cases he
theorem merge_sorted {tk:Int→Int→Int} {a b:List D} (ha:Ok a) (hb:Ok b):(mergeV tk a b).Pairwise fun p q=>p.1<q.1:=by
 obtain ⟨i1,_⟩:=pr_spec _ a b (Nat.le_refl _) ha hb
 unfold mergeV
 rw [List.pairwise_filterMap]
 refine i1.imp ?_
 intro p q hpq d hd c hc
 unfold ruleF at hd hc
 split at hd<;>split at hc
 · cases hd; cases hc; exact hpq
 all_goals first | (cases hc; done) | (cases hd; done)
theorem merge_ok {tk:Int→Int→Int} (hr:Rule tk) {a b:List D} (ha:Ok a) (hb:Ok b):Ok (mergeV tk a b):=by
 refine ⟨fun d hd=>?_,merge_sorted ha hb⟩
 obtain ⟨h1,h2,h3⟩:=merge_mem ha hb hd
 rw [isDot_iff]
 have r1:=atV_range ha d.1
 have r2:=atV_range hb d.1
 have:=hr.hi _ _ r1.2 r2.2
 rcases h3 with ⟨q,hq,e⟩ | ⟨q,hq,e⟩
 · have:=isDot_iff.1 (ha.dots q hq); omega
 · have:=isDot_iff.1 (hb.dots q hq); omega
theorem merge_at {tk:Int→Int→Int} (hr:Rule tk) {a b:List D} (ha:Ok a) (hb:Ok b) (dev:Int):atV dev (mergeV tk a b)=tk (atV dev a) (atV dev b):=by
 obtain ⟨_,i2,i3,i4,i5⟩:=pr_spec _ a b (Nat.le_refl _) ha hb
 have r1:=atV_range ha dev
 have r2:=atV_range hb dev
 by_cases hin:(∃ q∈a,q.1=dev)∨(∃ q∈b,q.1=dev)
 · obtain ⟨p,hp,hpd⟩:∃ p∈prN (a.length+b.length) a b,p.1=dev:=by
    rcases hin with ⟨q,hq,rfl⟩ | ⟨q,hq,rfl⟩
    · exact i4 q hq
    · exact i5 q hq
   subst hpd
   obtain ⟨e1,e2⟩:=i3 p hp
   by_cases hpos:tk p.2.1 p.2.2 > 0
   · have hm:(p.1,tk p.2.1 p.2.2)∈mergeV tk a b:=List.mem_filterMap.2 ⟨p,hp,if_pos hpos⟩
     rw [atV_mem (merge_ok hr ha hb) _ hm,← e1,← e2]
   · have h0:=hr.lo _ _ r1.1 r2.1
     rw [← e1,← e2] at h0 ⊢
     have hz:tk p.2.1 p.2.2=0:=by omega
     rw [hz]
     refine atV_not fun d hd e=>?_
     obtain ⟨h1,h2,_⟩:=merge_mem ha hb hd
     rw [e,← e1,← e2] at h1
     omega
 · have z1:atV dev a=0:=atV_not fun d hd e=>hin (.inl ⟨d,hd,e⟩)
   have z2:atV dev b=0:=atV_not fun d hd e=>hin (.inr ⟨d,hd,e⟩)
   rw [z1,z2,hr.zero]
   refine atV_not fun d hd e=>?_
   obtain ⟨_,_,h3⟩:=merge_mem ha hb hd
   rw [e] at h3
   exact hin h3
theorem filterMap_cong {α β:Type} {f g:α→Option β}:∀ {l:List α},(∀ x∈l,f x=g x)→l.filterMap f=l.filterMap g
 | [],_=>rfl
 | x::l,h=>by
  have h1:=h x (by simp)
  have h2:=filterMap_cong (l:=l) fun y hy=>h y (List.mem_cons_of_mem _ hy)
  rw [List.filterMap_cons,List.filterMap_cons,h1,h2]
theorem join_same {a b:List D} (ha:Ok a) (hb:Ok b):joinV a b=mergeV gmax a b:=by
 unfold joinV mergeV devs
 rw [dev_pr,List.filterMap_map]
 obtain ⟨_,i2,i3,_,_⟩:=pr_spec _ a b (Nat.le_refl _) ha hb
 refine filterMap_cong fun p hp=>?_
 obtain ⟨e1,e2⟩:=i3 p hp
 show joinF a b p.1=ruleF gmax p
 unfold joinF ruleF
 rw [← e1,← e2]
 have hpos:gmax p.2.1 p.2.2 > 0:=by
  have r1:=atV_range ha p.1
  have r2:=atV_range hb p.1
  rcases i2 p hp with ⟨q,hq,e⟩ | ⟨q,hq,e⟩
  · have:=atV_mem ha q hq
    have:=isDot_iff.1 (ha.dots q hq)
    rw [← e] at r1 r2 e1 e2
    unfold gmax
    split<;>omega
  · have:=atV_mem hb q hq
    have:=isDot_iff.1 (hb.dots q hq)
    rw [← e] at r1 r2 e1 e2
    unfold gmax
    split<;>omega
 rw [if_pos hpos]
 rfl
end Go.Vec


namespace Go.Mg
open Go Go.Am Go.Proofs Go.Seat Go.Vec Go.Cdc Go.Ops
def lat (o:OP):List D:=o.cx++(if 1<o.sq then [(o.dv,o.sq - 1)] else [])
def met (W:List D) (o:OP):Bool:=(lat o).all fun d=>decide (d.2≤Vec.atV d.1 W)
def rmet (W:List D) (o:OP):Bool:=(o.cx.all fun d=>decide (d.2≤Vec.atV d.1 W)) && decide (Vec.atV o.dv W=o.sq - 1)
def snPut:List D→D→List D
 | [],d=>[d]
 | x::l,d=>if x.1=d.1 then d::l else x::snPut l d
theorem snPut_at:∀ (W:List D) (d:D) (v:Int),Vec.atV v (snPut W d)=if d.1=v then d.2 else Vec.atV v W
 | [],d,v=>rfl
 | x::l,d,v=>by
  unfold snPut
  by_cases h:x.1=d.1
  · rw [if_pos h]; simp only [Vec.atV,h]; split<;>rfl
  · rw [if_neg h]; simp only [Vec.atV,snPut_at l d v]
    by_cases h1:x.1=v
    · rw [if_pos h1,if_neg (fun e=>h (h1.trans e.symm)),if_pos h1]
    · rw [if_neg h1,if_neg h1]
def pick (p:OP→Bool):List OP→Option (OP × List OP)
 | []=>none
 | o::l=>if p o=true then some (o,l) else (pick p l).map fun q=>(q.1,o::q.2)
theorem pick_none {p:OP→Bool}:∀ {l:List OP},pick p l=none→∀ o∈l,p o=false
 | [],_,_,h=>by cases h
 | o::l,h,x,hx=>by
  unfold pick at h
  split at h
  · cases h
  · rename_i hp
    rcases List.mem_cons.1 hx with rfl | hx
    · simpa using hp
    · exact pick_none (by simpa using h) x hx
theorem pick_some {p:OP→Bool}:∀ {l r:List OP} {o:OP},pick p l=some (o,r)→∃ a b,l=a++o::b∧r=a++b∧(∀ x∈a,p x=false)∧p o=true
 | [],_,_,h=>by cases h
 | x::l,r,o,h=>by
  unfold pick at h
  split at h
  · rename_i hp
    cases h
    exact ⟨[],l,rfl,rfl,fun _ h=>(by cases h),hp⟩
  · rename_i hp
    obtain ⟨⟨o',r'⟩,h1,h2⟩:=Option.map_eq_some_iff.1 h
    cases h2
    obtain ⟨a,b,rfl,rfl,e3,e4⟩:=pick_some h1
    exact ⟨x::a,b,rfl,rfl,fun y hy=>by
     rcases List.mem_cons.1 hy with rfl | hy
     · simpa using hp
     · exact e3 y hy,e4⟩
theorem pick_congr {p q:OP→Bool}:∀ {l:List OP},(∀ o∈l,p o=q o)→pick p l=pick q l
 | [],_=>rfl
 | o::l,h=>by
  unfold pick
  rw [h o List.mem_cons_self,pick_congr fun x hx=>h x (List.mem_cons_of_mem _ hx)]
def rdyG (m:List D→OP→Bool) (pt:List D→OP→List D):Nat→List D→List OP→List OP
 | 0,_,_=>[]
 | n+1,W,l=>match pick (m W) l with
  | none=>[]
  | some (o,r)=>o::rdyG m pt n (pt W o) r
def sPut (W:List D) (o:OP):List D:=snPut W (o.dv,o.sq)
def jPut (W:List D) (o:OP):List D:=joinV W [(o.dv,o.sq)]
def rdy (l:List OP):List OP:=rdyG met sPut l.length [] l
theorem valid_of {o:OP} (h:okO o=true):isDotB (o.dv,o.sq)=true∧okB o.cx=true∧coversB o.cx (o.dv,o.sq)=false:=by
 have h1:chkOE o=0:=of_decide_eq_true h
 unfold chkOE at h1
 have h2:chkB' o=true:=by
  by_cases hc:chkB' o=true
  · exact hc
  · rw [if_neg hc] at h1; cases h1
 simp only [chkB',stageB,Bool.and_eq_true] at h2
 exact ⟨h2.1.1.1.1.1.1.1,h2.1.1.1.1.2,by simpa using h2.1.1.1.2⟩
theorem ok_dot {o:OP} (h:okO o=true):Ok [(o.dv,o.sq)]:=⟨fun x hx=>by rw [List.mem_singleton.1 hx]; exact (valid_of h).1,List.pairwise_singleton ..⟩
theorem ok_cx {o:OP} (h:okO o=true):Ok o.cx:=ok_iff.1 (valid_of h).2.1
theorem jPut_ok {V:List D} {o:OP} (hV:Ok V) (h:okO o=true):Ok (jPut V o):=by
 unfold jPut
 rw [join_same hV (ok_dot h)]
 exact merge_ok rule_max hV (ok_dot h)
theorem jPut_at {V:List D} {o:OP} (hV:Ok V) (h:okO o=true) (d:Int):Vec.atV d (jPut V o)=if o.dv=d then max o.sq (Vec.atV d V) else Vec.atV d V:=by
 unfold jPut
 have h0:=(atV_range hV d).1
 have h1:=(isDot_iff.1 (valid_of h).1)
 rw [join_same hV (ok_dot h),merge_at rule_max hV (ok_dot h)]
 show gmax _ (if o.dv=d then o.sq else 0)=_
 unfold gmax
 simp only at h1
 split<;>split<;>omega
structure Inv (W V:List D) (l:List OP):Prop where
 at_:∀ d,Vec.atV d W=Vec.atV d V
 ok:Ok V
 valid:∀ o∈l,okO o=true
 dots:Dots l
 new:∀ o∈l,Vec.atV o.dv V<o.sq
theorem Inv.met {W V:List D} {l:List OP} (h:Inv W V l) {o:OP} (ho:o∈l):met W o=rmet V o:=by
 have hn:=h.new o ho
 have h0:=(atV_range h.ok o.dv).1
 unfold Mg.met rmet lat
 rw [List.all_append]
 congr 1
 · exact List.all_congr rfl fun d=>by rw [h.at_]
 · by_cases hs:1<o.sq
   · rw [if_pos hs]
     simp only [List.all_cons,List.all_nil,Bool.and_true,h.at_]
     exact decide_eq_decide.2 ⟨fun q=>by omega,fun q=>by omega⟩
   · rw [if_neg hs]
     exact (decide_eq_true (by omega)).symm
theorem Inv.step {W V a b:List _} {o:OP} (h:Inv W V (a++o::b)) (hm:rmet V o=true):Inv (sPut W o) (jPut V o) (a++b):=by
 have ho:o∈a++o::b:=by simp
 have hv:=h.valid o ho
 have hn:=h.new o ho
 have hs:∀ x,x∈a++b→x∈a++o::b:=fun x hx=>by
  rcases List.mem_append.1 hx with hx | hx
  · exact List.mem_append_left _ hx
  · exact List.mem_append_right _ (List.mem_cons_of_mem _ hx)
 have hd:(a++b).Sublist (a++o::b):=List.Sublist.append (List.Sublist.refl _) (List.sublist_cons_self ..)
 have hne:∀ x∈a++b,dt x≠dt o:=fun x hx=>by
  have:=List.pairwise_append.1 h.dots
  rcases List.mem_append.1 hx with hx | hx
  · exact this.2.2 x hx o List.mem_cons_self
  · exact fun e=>(List.pairwise_cons.1 this.2.1).1 x hx e.symm
 have he:Vec.atV o.dv V=o.sq - 1:=by
  unfold rmet at hm
  simp only [Bool.and_eq_true,decide_eq_true_eq] at hm
  exact hm.2
 refine ⟨fun d=>?_,jPut_ok h.ok hv,fun x hx=>h.valid x (hs x hx),h.dots.sublist hd,fun x hx=>?_⟩
 · rw [jPut_at h.ok hv,sPut,snPut_at,h.at_ d]
   simp only
   split
   · rename_i e; subst e; omega
   · rfl
 · rw [jPut_at h.ok hv]
   have hx1:=h.new x (hs x hx)
   split
   · rename_i e
     have:x.sq≠o.sq:=fun e2=>hne x hx (by show (x.dv,x.sq)=(o.dv,o.sq); rw [e,e2])
     rw [← e] at hx1 ⊢
     omega
   · exact hx1
theorem rdy_same:∀ {n:Nat} {W V:List D} {l:List OP},Inv W V l→rdyG met sPut n W l=rdyG rmet jPut n V l
 | 0,_,_,_,_=>rfl
 | n+1,W,V,l,h=>by
  unfold rdyG
  rw [pick_congr fun o ho=>h.met ho]
  cases e:pick (rmet V) l with
  | none=>rfl
  | some q =>
   obtain ⟨o,r⟩:=q
   obtain ⟨a,b,rfl,rfl,_,h4⟩:=pick_some e
   simp only
   rw [rdy_same (h.step h4)]
theorem inv0 {l:List OP} (hv:∀ o∈l,okO o=true) (hd:Dots l):Inv [] [] l:=⟨fun _=>rfl,Ok.nil,hv,hd,fun o ho=>by
 have:=(isDot_iff.1 (valid_of (hv o ho)).1)
 show (0:Int)<o.sq
 simp only at this
 omega⟩
theorem rdy_ref {l:List OP} (hv:∀ o∈l,okO o=true) (hd:Dots l):rdy l=rdyG rmet jPut l.length [] l:=rdy_same (inv0 hv hd)
def seen (V:List D) (out:List OP):List D:=out.foldl jPut V
def Met (V:List D) (o:OP):Prop:=(∀ d∈o.cx,d.2≤Vec.atV d.1 V)∧o.sq - 1≤Vec.atV o.dv V
structure Rdy (V:List D) (l out:List OP):Prop where
 ok:Ok (seen V out)
 le:∀ d,Vec.atV d V≤Vec.atV d (seen V out)
 sub:∀ o∈out,o∈l
 nd:Dots out
 cov:∀ o∈out,o.sq≤Vec.atV o.dv (seen V out)
 met:∀ o∈out,Met (seen V out) o
 from_:∀ d,Vec.atV d V<Vec.atV d (seen V out)→∃ o∈out,dt o=(d,Vec.atV d (seen V out))
 all:∀ o∈l,Met (seen V out) o→o∈out
 cov':∀ o∈l,o.sq≤Vec.atV o.dv (seen V out)→o∈out
theorem rmet_iff {V:List D} {o:OP} (h:Vec.atV o.dv V<o.sq):rmet V o=true↔Met V o:=by
 unfold rmet Met
 simp only [Bool.and_eq_true,List.all_eq_true,decide_eq_true_eq]
 constructor
 · rintro ⟨a,b⟩; exact ⟨a,by omega⟩
 · rintro ⟨a,b⟩; exact ⟨a,by omega⟩
theorem Met.mono {V U:List D} (h:∀ d,Vec.atV d V≤Vec.atV d U) {o:OP} (m:Met V o):Met U o:=⟨fun d hd=>Int.le_trans (m.1 d hd) (h d.1),Int.le_trans m.2 (h o.dv)⟩
theorem rdy_spec:∀ {n:Nat} {W V:List D} {l:List OP},Inv W V l→l.length≤n→Rdy V l (rdyG rmet jPut n V l):=by
 intro n
 induction n with
 | zero =>
  intro W V l h hn
  have:l=[]:=List.eq_nil_of_length_eq_zero (by omega)
  subst this
  exact ⟨h.ok,fun _=>Int.le_refl _,fun _ h=>(by cases h),.nil,fun _ h=>(by cases h),fun _ h=>(by cases h),fun d hd=>absurd hd (Int.lt_irrefl _),fun _ h=>(by cases h),fun _ h=>(by cases h)⟩
 | succ n ih =>
  intro W V l h hn
  unfold rdyG
  cases e:pick (rmet V) l with
  | none =>
   have hno:=pick_none e
   exact ⟨h.ok,fun _=>Int.le_refl _,fun _ h=>(by cases h),.nil,fun _ h=>(by cases h),fun _ h=>(by cases h),fun d hd=>absurd hd (Int.lt_irrefl _),fun o ho m=>(by
    have:=(rmet_iff (h.new o ho)).2 m
    rw [hno o ho] at this
    cases this),fun o ho hc=>absurd hc (by have:=h.new o ho; show ¬ o.sq≤Vec.atV o.dv V; omega)⟩
  | some q =>
   obtain ⟨o,r⟩:=q
   obtain ⟨a,b,rfl,rfl,_,h4⟩:=pick_some e
   have ho:o∈a++o::b:=by simp
   have hv:=h.valid o ho
   have hst:=h.step h4
   have k:=ih hst (by simp at hn ⊢; omega)
   simp only
   generalize hout:rdyG rmet jPut n (jPut V o) (a++b)=out at k ⊢
   have es:seen V (o::out)=seen (jPut V o) out:=rfl
   have hs:∀ x,x∈a++b→x∈a++o::b:=fun x hx=>by
    rcases List.mem_append.1 hx with hx | hx
    · exact List.mem_append_left _ hx
    · exact List.mem_append_right _ (List.mem_cons_of_mem _ hx)
   have hs':∀ x,x∈a++o::b→x=o∨x∈a++b:=fun x hx=>by
    rcases List.mem_append.1 hx with hx | hx
    · exact .inr (List.mem_append_left _ hx)
    · rcases List.mem_cons.1 hx with rfl | hx
      · exact .inl rfl
      · exact .inr (List.mem_append_right _ hx)
   have hj:∀ d,Vec.atV d V≤Vec.atV d (jPut V o):=fun d=>by rw [jPut_at h.ok hv]; split<;>omega
   have hjo:Vec.atV o.dv (jPut V o)=o.sq:=by rw [jPut_at h.ok hv,if_pos rfl]; have:=h.new o ho; omega
   have hne:∀ x∈a++b,dt o≠dt x:=fun x hx=>by
    have:=List.pairwise_append.1 h.dots
    rcases List.mem_append.1 hx with hx | hx
    · exact fun e=>this.2.2 x hx o List.mem_cons_self e.symm
    · exact (List.pairwise_cons.1 this.2.1).1 x hx
   refine ⟨k.ok,fun d=>Int.le_trans (hj d) (k.le d),fun x hx=>?_,List.pairwise_cons.2 ⟨fun x hx=>hne x (k.sub x hx),k.nd⟩,fun x hx=>?_,fun x hx=>?_,fun d hd=>?_,fun x hx m=>?_,fun x hx hc=>?_⟩
   · rcases List.mem_cons.1 hx with rfl | hx
     · exact ho
     · exact hs x (k.sub x hx)
   · rcases List.mem_cons.1 hx with rfl | hx
     · have:=k.le x.dv; rw [es]; omega
     · exact k.cov x hx
   · rcases List.mem_cons.1 hx with rfl | hx
     · exact ((rmet_iff (h.new x ho)).1 h4).mono fun d=>Int.le_trans (hj d) (k.le d)
     · exact k.met x hx
   · rw [es] at hd ⊢
     by_cases hlt:Vec.atV d (jPut V o)<Vec.atV d (seen (jPut V o) out)
     · obtain ⟨x,hx,e1⟩:=k.from_ d hlt
       exact ⟨x,List.mem_cons_of_mem _ hx,e1⟩
     · have hle:=k.le d
       have he:Vec.atV d (seen (jPut V o) out)=Vec.atV d (jPut V o):=by omega
       refine ⟨o,List.mem_cons_self,?_⟩
       rw [he] at hd ⊢
       by_cases hdv:o.dv=d
       · subst hdv; rw [hjo]
       · rw [jPut_at h.ok hv,if_neg hdv] at hd; omega
   · rcases hs' x hx with rfl | hx
     · exact List.mem_cons_self
     · exact List.mem_cons_of_mem _ (k.all x hx m)
   · rcases hs' x hx with rfl | hx
     · exact List.mem_cons_self
     · exact List.mem_cons_of_mem _ (k.cov' x hx hc)
theorem uni_valid {l:List OP} (h:Gds l):∀ o∈uni l,okO o=true:=fun o ho=>(((uni_canon h).mem o).1 ho).2.1
theorem uni_dots {l:List OP} (h:Gds l):Dots (uni l):=((uni_canon h).keeps h).dots
theorem uni_gd {l:List OP} (h:Gds l):Gds (uni l):=fun o ho=>h o (((uni_canon h).mem o).1 ho).1
theorem rdy_is {l:List OP} (h:Gds l):Rdy [] (uni l) (rdy (uni l)):=by
 rw [rdy_ref (uni_valid h) (uni_dots h)]
 exact rdy_spec (inv0 (uni_valid h) (uni_dots h)) (Nat.le_refl _)
theorem rdy_more:∀ {n:Nat} {W V:List D} {l:List OP},Inv W V l→l.length≤n→∀ {U:List D} {m out:List OP},Rdy U m out→(∀ o∈l,o∈m)→(∀ d,Vec.atV d V≤Vec.atV d (seen U out))→∀ o∈rdyG rmet jPut n V l,o∈out:=by
 intro n
 induction n with
 | zero=>intro W V l _ _ U m out _ _ _ o ho; cases ho
 | succ n ih =>
  intro W V l h hn U m out k hs hle x hx
  unfold rdyG at hx
  cases e:pick (rmet V) l with
  | none=>rw [e] at hx; cases hx
  | some q =>
   obtain ⟨o,r⟩:=q
   rw [e] at hx
   obtain ⟨a,b,rfl,rfl,_,h4⟩:=pick_some e
   have ho:o∈a++o::b:=by simp
   have hin:o∈out:=k.all o (hs o ho) (((rmet_iff (h.new o ho)).1 h4).mono hle)
   rcases List.mem_cons.1 hx with rfl | hx
   · exact hin
   · refine ih (h.step h4) (by simp at hn ⊢; omega) k (fun y hy=>hs y ?_) (fun d=>?_) x hx
     · rcases List.mem_append.1 hy with hy | hy
       · exact List.mem_append_left _ hy
       · exact List.mem_append_right _ (List.mem_cons_of_mem _ hy)
     · rw [jPut_at h.ok (h.valid o ho)]
       have:=hle d
       split
       · rename_i e1; subst e1
         have:=k.cov o hin
         omega
       · exact this
theorem nd_len {α β:Type} [BEq α] [LawfulBEq α] (f:α→β):∀ {a b:List α},(a.Pairwise fun x y=>f x≠f y)→(∀ x∈a,x∈b)→a.length≤b.length
 | [],_,_,_=>Nat.zero_le _
 | x::a,b,h,hs=>by
  have h':=List.pairwise_cons.1 h
  have hx:=hs x List.mem_cons_self
  have:=nd_len f (a:=a) (b:=b.erase x) h'.2 fun y hy=>by
   have hne:y≠x:=fun e=>h'.1 y hy (by rw [e])
   exact (List.mem_erase_of_ne hne).2 (hs y (List.mem_cons_of_mem _ hy))
  have h2:=List.length_erase_of_mem hx
  have h3:0<b.length:=List.length_pos_of_mem hx
  simp only [List.length_cons]
  omega
end Go.Mg


namespace Go.Mg
open Go Go.Am Go.Proofs Go.Seat Go.Vec Go.Cdc Go.Ops
def hsS (l:List OP) (a b:Int) (k:Nat):St:={ env:=slots 19 [(0,opl l),(1,dot (a,b)),(3,.ptr 0 0),(4,Am.bool false),(5,int k)],H:=[.box [int a,int b]] }
theorem has_w (l:List OP) (a b:Int) (k:Nat) (hl:l.length≤1000000) (ex:AEx) (s':St) (h:((((k:Int)<(l.length:Int))→(∃ x2:OP,(l[k]? = some x2)∧((((x2.dv == a && x2.sq == b)=true)→(AEx.ret=ex)∧(sM 19 [(4,Am.bool true)] [.box [int a,int b]]=s'))∧(((x2.dv == a && x2.sq == b)=false)→Rq 0 30 0 (sM 19 [(0,opl l),(1,.agg [int a,int b]),(3,.ptr 0 0),(4,Am.bool false),(5,int ↑(k+1))] [.box [int a,int b]]) ex s'))))∧((¬(k:Int)<(l.length:Int))→(AEx.exit 0=ex)∧(sM 19 [(4,Am.bool false)] [.box [int a,int b]]=s')))):Rq 0 30 0 (hsS l a b k) ex s':=by
 have hz0:=lenS (ocs_length l)
 by_cases c1:((k:Int)<(l.length:Int))
 · have h:=h.1 c1
   obtain ⟨x2,o3,h⟩:=h
   let l1:List Itm:=[kv 8 hz0,kt (qT c1),ke (opc x2) (ocs l) k (el_nat o3)]
   rcases Bool.eq_false_or_eq_true ((x2.dv == a && x2.sq == b)) with c4 | c4
   · have h:=h.1 c4
     obtain ⟨eX,eS⟩:=h
     exact RunL.to ((show Rq 0 30 0 (hsS l a b k) AEx.ret (sM 19 [(4,Am.bool true)] [.box [int a,int b]]) from loop_exit (l1++[kt c4]) (others 19 [4]) 1)) eX (SubS.of_eq eS)
   · have h:=h.2 c4
     exact loop_next (l1++[kf c4,kW 11 (k+1) ↑(k+1)]) (others 19 [0,1,3,4,5]) 1 h
 · have h:=h.2 c1
   obtain ⟨eX,eS⟩:=h
   exact RunL.to ((show Rq 0 30 0 (hsS l a b k) (AEx.exit 0) (sM 19 [(4,Am.bool false)] [.box [int a,int b]]) from loop_exit [kv 8 hz0,kf (qF c1)] (others 19 [4]) 1)) eX (SubS.of_eq eS)
def fwS (l:List OP) (n:Int) (k:Nat):St:={ env:=slots 44 [(0,opl l),(1,int n),(4,Am.bool false),(5,int k)],H:=[] }
theorem few_a (l:List OP) (n:Int) (x:OP) (k:Nat) (hl:l.length≤9223372036854775807) (hk:(k:Int)<(l.length:Int)) (hx:l[k]? = some x) (ha:(x.cx.length:Int) > 12) (ex:AEx) (s':St) (h:(AEx.ret=ex)∧(sM 44 [(4,Am.bool false)] []=s')):Rq 0 12 0 (fwS l n k) ex s':=by
 obtain ⟨eX,eS⟩:=h
 exact RunL.to ((show Rq 0 12 0 (fwS l n k) AEx.ret (sM 44 [(4,Am.bool false)] []) from loop_exit [kN 9 (ocs_length l),ki ((k:Int)<l.length),ke (opc x) (ocs l) k (el_nat hx),kN 19 (Go.Vec.encs_length x.cx),ki ((↑(List.length x.cx):Int) > 12),kO,kO,kO] (others 44 [4]) 0)) eX (SubS.of_eq eS)
theorem few_b (l:List OP) (n:Int) (x:OP) (k:Nat) (hl:l.length≤9223372036854775807) (hk:(k:Int)<(l.length:Int)) (hx:l[k]? = some x) (ha:(x.cx.length:Int)≤12) (hb:(x.vl.size:Int) > 300) (ex:AEx) (s':St) (h:(AEx.ret=ex)∧(sM 44 [(4,Am.bool false)] []=s')):Rq 0 12 0 (fwS l n k) ex s':=by
 obtain ⟨eX,eS⟩:=h
 exact RunL.to ((show Rq 0 12 0 (fwS l n k) AEx.ret (sM 44 [(4,Am.bool false)] []) from loop_exit [kN 9 (ocs_length l),ki ((k:Int)<l.length),ke (opc x) (ocs l) k (el_nat hx),kN 19 (Go.Vec.encs_length x.cx),kj ((↑(List.length x.cx):Int) > 12),ki ((↑(ByteArray.size x.vl):Int) > 300),kO,kO] (others 44 [4]) 0)) eX (SubS.of_eq eS)
theorem few_c (l:List OP) (n:Int) (x:OP) (k:Nat) (hl:l.length≤9223372036854775807) (hk:(k:Int)<(l.length:Int)) (hx:l[k]? = some x) (ha:(x.cx.length:Int)≤12) (hb:(x.vl.size:Int)≤300) (hc:(x.ky.size:Int) > 300) (ex:AEx) (s':St) (h:(AEx.ret=ex)∧(sM 44 [(4,Am.bool false)] []=s')):Rq 0 12 0 (fwS l n k) ex s':=by
 obtain ⟨eX,eS⟩:=h
 exact RunL.to ((show Rq 0 12 0 (fwS l n k) AEx.ret (sM 44 [(4,Am.bool false)] []) from loop_exit [kN 9 (ocs_length l),ki ((k:Int)<l.length),ke (opc x) (ocs l) k (el_nat hx),kN 19 (Go.Vec.encs_length x.cx),kj ((↑(List.length x.cx):Int) > 12),kj ((↑(ByteArray.size x.vl):Int) > 300),ki ((↑(ByteArray.size x.ky):Int) > 300),kO] (others 44 [4]) 0)) eX (SubS.of_eq eS)
theorem few_d (l:List OP) (n:Int) (x:OP) (k:Nat) (hl:l.length≤9223372036854775807) (hk:(k:Int)<(l.length:Int)) (hx:l[k]? = some x) (ha:(x.cx.length:Int)≤12) (hb:(x.vl.size:Int)≤300) (hc:(x.ky.size:Int)≤300) (hd:(x.pn.size:Int) > 300) (ex:AEx) (s':St) (h:(AEx.ret=ex)∧(sM 44 [(4,Am.bool false)] []=s')):Rq 0 12 0 (fwS l n k) ex s':=by
 obtain ⟨eX,eS⟩:=h
 exact RunL.to ((show Rq 0 12 0 (fwS l n k) AEx.ret (sM 44 [(4,Am.bool false)] []) from loop_exit [kN 9 (ocs_length l),ki ((k:Int)<l.length),ke (opc x) (ocs l) k (el_nat hx),kN 19 (Go.Vec.encs_length x.cx),kj ((↑(List.length x.cx):Int) > 12),kj ((↑(ByteArray.size x.vl):Int) > 300),kj ((↑(ByteArray.size x.ky):Int) > 300),ki ((↑(ByteArray.size x.pn):Int) > 300)] (others 44 [4]) 0)) eX (SubS.of_eq eS)
theorem few_n (l:List OP) (n:Int) (x:OP) (k:Nat) (hl:l.length≤9223372036854775807) (hk:(k:Int)<(l.length:Int)) (hx:l[k]? = some x) (ha:(x.cx.length:Int)≤12) (hb:(x.vl.size:Int)≤300) (hc:(x.ky.size:Int)≤300) (hd:(x.pn.size:Int)≤300) (ex:AEx) (s':St) (h:Rq 0 12 0 (sM 44 [(0,opl l),(1,int n),(4,Am.bool false),(5,int ↑(k+1))] []) ex s'):Rq 0 12 0 (fwS l n k) ex s':=by
 exact loop_next [kN 9 (ocs_length l),ki ((k:Int)<l.length),ke (opc x) (ocs l) k (el_nat hx),kN 19 (Go.Vec.encs_length x.cx),kj ((↑(List.length x.cx):Int) > 12),kj ((↑(ByteArray.size x.vl):Int) > 300),kj ((↑(ByteArray.size x.ky):Int) > 300),kj ((↑(ByteArray.size x.pn):Int) > 300),kW 12 (k+1) ↑(k+1)] (others 44 [0,1,4,5]) 0 h
theorem few_e (l:List OP) (n:Int) (k:Nat) (hl:l.length≤9223372036854775807) (hk:¬ (k:Int)<(l.length:Int)) (h:True):Rq 0 12 0 (fwS l n k) (AEx.exit 0) (sM 44 [(0,opl l),(1,int n),(4,Am.bool false)] []):=by
 have _:=h
 exact loop_exit [kN 9 (ocs_length l),kj ((k:Int)<l.length)] (others 44 [0,1,4]) 0
def smS (a b:List OP) (k:Nat):St:={ env:=slots 27 [(0,opl a),(1,opl b),(4,Am.bool false),(5,int k)],H:=[] }
theorem same_w (a b:List OP) (k:Nat) (ha:a.length≤1000000) (x y:OP) (hx:a[k]? = some x) (hy:b[k]? = some y) (hk:(k:Int)<(a.length:Int)) (r:Bool) (hs:Cq 34 [op x,op y] (Am.bool r)) (ex:AEx) (s':St) (h:((((r)=true)→Rq 0 13 0 (sM 27 [(0,opl a),(1,opl b),(4,Am.bool false),(5,int ↑(k+1))] []) ex s')∧(((r)=false)→(AEx.ret=ex)∧(sM 27 [(4,Am.bool false)] []=s')))):Rq 0 13 0 (smS a b k) ex s':=by
 let l1:List Itm:=[kN 13 (ocs_length a),ki ((k:Int)<a.length),ko (Orc.elem (opc x)),ko (Orc.elem (opc y)),kp (show (0:Int)≤(k:Int)∧(ocs a)[Int.toNat (k:Int)]? = some (opc x) from (el_nat hx)),kp (show (0:Int)≤(k:Int)∧(ocs b)[Int.toNat (k:Int)]? = some (opc y) from (el_nat hy)),kc [] hs]
 rcases Bool.eq_false_or_eq_true ((r)) with c2 | c2
 · have h:=h.1 c2
   exact loop_next (l1++[kf (show (!r)=false from (congrArg Bool.not (c2))),kW 16 (k+1) ↑(k+1)]) (others 27 [0,1,4,5]) 0 h
 · have h:=h.2 c2
   obtain ⟨eX,eS⟩:=h
   exact RunL.to ((show Rq 0 13 0 (smS a b k) AEx.ret (sM 27 [(4,Am.bool false)] []) from loop_exit (l1++[kt (show (!r)=true from (congrArg Bool.not (c2)))]) (others 27 [4]) 0)) eX (SubS.of_eq eS)
theorem same_e (a b:List OP) (k:Nat) (ha:a.length≤1000000) (hk:¬ (k:Int)<(a.length:Int)) (ex:AEx) (s':St) (h:(AEx.exit 0=ex)∧(sM 27 [(4,Am.bool false)] []=s')):Rq 0 13 0 (smS a b k) ex s':=by
 obtain ⟨eX,eS⟩:=h
 exact RunL.to ((show Rq 0 13 0 (smS a b k) (AEx.exit 0) (sM 27 [(4,Am.bool false)] []) from loop_exit [kN 13 (ocs_length a),kj ((k:Int)<a.length)] (others 27 [4]) 0)) eX (SubS.of_eq eS)
end Go.Mg


namespace Go.Mg
open Go Go.Am Go.Proofs Go.Seat Go.Vec Go.Cdc Go.Ops
def ndA (v:Int) (ds:List D) (a:Int):Int:=ds.foldl (fun a d=>if d.1=v then max a d.2 else a) a
def ndPut (W:List D) (d:D):List D:=snPut W (d.1,max (Vec.atV d.1 W) d.2)
abbrev dvs (W:List D):List Int:=W.map (·.1)
theorem nd_at (v:Int):∀ (ds W:List D),Vec.atV v (ds.foldl ndPut W)=ndA v ds (Vec.atV v W)
 | [],W=>rfl
 | d::ds,W=>by
  show Vec.atV v (ds.foldl ndPut (ndPut W d))=ndA v ds (if d.1=v then max (Vec.atV v W) d.2 else Vec.atV v W)
  rw [nd_at v ds,ndPut,snPut_at]
  simp only
  by_cases h:d.1=v
  · rw [if_pos h,if_pos h,h]
  · rw [if_neg h,if_neg h]
theorem snPut_keys:∀ {W:List D} {x:D} {d:Int},d∈dvs (snPut W x)↔d∈dvs W∨d=x.1
 | [],x,d=>by simp [snPut,dvs]
 | y::W,x,d=>by
  unfold snPut
  have:=snPut_keys (W:=W) (x:=x) (d:=d)
  split
  · rename_i h; simp only [dvs,List.map_cons,List.mem_cons,h]; grind
  · simp only [dvs,List.map_cons,List.mem_cons] at this ⊢; grind
theorem snPut_nd:∀ {W:List D} {x:D},(dvs W).Nodup→(dvs (snPut W x)).Nodup
 | [],x,_=>by simp [snPut,dvs]
 | y::W,x,h=>by
  have h':=List.nodup_cons.1 h
  unfold snPut
  split
  · rename_i e; exact List.nodup_cons.2 ⟨show x.1∉W.map (·.1) from e ▸ (show y.1∉W.map (·.1) from h'.1),h'.2⟩
  · rename_i e
    refine List.nodup_cons.2 ⟨fun hm=>?_,snPut_nd h'.2⟩
    rcases snPut_keys.1 hm with hm | hm
    · exact h'.1 hm
    · exact e hm
theorem nd_keys {d:Int}:∀ {ds W:List D},d∈dvs (ds.foldl ndPut W)↔d∈dvs W∨d∈dvs ds
 | [],W=>by simp
 | x::ds,W=>by
  show d∈dvs (ds.foldl ndPut (ndPut W x))↔_
  rw [nd_keys (ds:=ds),ndPut,snPut_keys]
  simp only [dvs,List.map_cons,List.mem_cons]
  grind
theorem nd_nd:∀ {ds W:List D},(dvs W).Nodup→(dvs (ds.foldl ndPut W)).Nodup
 | [],_,h=>h
 | x::ds,W,h=>nd_nd (ds:=ds) (snPut_nd h)
theorem ndA_not (v:Int):∀ {ds:List D} (a:Int),v∉dvs ds→ndA v ds a=a
 | [],a,_=>rfl
 | d::ds,a,h=>by
  simp only [dvs,List.map_cons,List.mem_cons,not_or] at h
  show ndA v ds (if d.1=v then _ else a)=a
  rw [if_neg (fun e=>h.1 e.symm)]
  exact ndA_not v a h.2
theorem ndA_perm (v:Int) {a b:List D} (h:a.Perm b) (n:Int):ndA v a n=ndA v b n:=by
 unfold ndA
 exact h.foldl_eq' (fun x _ y _ z=>by split<;>split<;>omega) n
def lats (m:List OP):List D:=(m.map lat).flatten
def ndOf (v:Int) (m:List OP):Int:=ndA v (lats m) 0
def has (m:List OP) (d s:Int):Bool:=m.any fun o=>decide (dt o=(d,s))
theorem has_iff {m:List OP} {d s:Int}:has m d s=true↔∃ o∈m,dt o=(d,s):=by simp [has]
def frs (m:List OP) (d:Int):Nat→Int→Int
 | 0,s=>s
 | n+1,s=>if has m d s=true then frs m d n (s+1) else s
theorem frs_ge (m:List OP) (d:Int):∀ (n:Nat) (s:Int),s≤frs m d n s∧frs m d n s≤s+n
 | 0,s=>⟨Int.le_refl _,by show s≤s+0; omega⟩
 | n+1,s=>by
  unfold frs
  have:=frs_ge m d n (s+1)
  split<;>omega
theorem frs_mid (m:List OP) (d:Int):∀ (n:Nat) (s t:Int),s≤t→t<frs m d n s→has m d t=true
 | 0,s,t,h,k=>by unfold frs at k; omega
 | n+1,s,t,h,k=>by
  unfold frs at k
  split at k
  · rename_i hh
    by_cases e:t=s
    · exact e ▸ hh
    · exact frs_mid m d n (s+1) t (by omega) k
  · omega
theorem frs_end {m:List OP} (d:Int):∀ (n:Nat) (s:Int),frs m d n s<s+n→has m d (frs m d n s)=false
 | 0,s,h=>by unfold frs at h; omega
 | n+1,s,h=>by
  unfold frs at h ⊢
  split
  · rename_i hh
    rw [if_pos hh] at h
    exact frs_end d n (s+1) (by omega)
  · rename_i hh; simpa using hh
theorem frs_free (m:List OP) (d:Int) (s:Int):has m d (frs m d (m.length+1) s)=false:=by
 by_cases h:frs m d (m.length+1) s<s+((m.length+1:Nat):Int)
 · exact frs_end d _ s h
 · exfalso
   have key:=nd_len (fun x:Int × Int=>x) (a:=(List.range (m.length+1)).map fun i:Nat=>(d,s+(i:Int))) (b:=m.map dt) (by
    rw [List.pairwise_map]
    exact List.nodup_range.imp fun {a b} hab e=>hab (by injection e; omega)) fun x hx=>by
    obtain ⟨i,hi,rfl⟩:=List.mem_map.1 hx
    have hi:=List.mem_range.1 hi
    obtain ⟨o,ho,e⟩:=has_iff.1 (frs_mid m d (m.length+1) s (s+i) (by omega) (by omega))
    exact List.mem_map.2 ⟨o,ho,e⟩
   simp at key
   omega
def misF (m:List OP) (d:Int):Option D:=if frs m d (m.length+1) 1≤ndOf d m then some (d,frs m d (m.length+1) 1) else none
def i512:List Int:=(List.range 512).map fun n:Nat=>(n:Int)
def mis (m:List OP):List D:=i512.filterMap (misF m)
theorem int_sorted:∀ {l m:List Int},l.Pairwise (·<·)→m.Pairwise (·<·)→(∀ x,x∈l↔x∈m)→l=m
 | [],[],_,_,_=>rfl
 | [],b::m,_,_,h=>absurd ((h b).2 List.mem_cons_self) (by simp)
 | a::l,[],_,_,h=>absurd ((h a).1 List.mem_cons_self) (by simp)
 | a::l,b::m,hl,hm,h=>by
  have hl':=List.pairwise_cons.1 hl
  have hm':=List.pairwise_cons.1 hm
  have e:a=b:=by
   rcases List.mem_cons.1 ((h a).1 List.mem_cons_self) with e | ha
   · exact e
   · rcases List.mem_cons.1 ((h b).2 List.mem_cons_self) with e | hb
     · exact e.symm
     · have h1:=hl'.1 b hb
       have h2:=hm'.1 a ha
       omega
  subst e
  congr 1
  refine int_sorted hl'.2 hm'.2 fun x=>⟨fun hx=>?_,fun hx=>?_⟩
  · rcases List.mem_cons.1 ((h x).1 (List.mem_cons_of_mem _ hx)) with rfl | hx'
    · exact absurd (hl'.1 x hx) (by omega)
    · exact hx'
  · rcases List.mem_cons.1 ((h x).2 (List.mem_cons_of_mem _ hx)) with rfl | hx'
    · exact absurd (hm'.1 x hx) (by omega)
    · exact hx'
theorem i512_sorted:i512.Pairwise (·<·):=by
 unfold i512
 rw [List.pairwise_map]
 exact List.pairwise_lt_range.imp fun {a b} h=>by omega
theorem mem_i512 {x:Int}:x∈i512↔0≤x∧x<512:=by
 unfold i512
 rw [List.mem_map]
 constructor
 · rintro ⟨n,hn,rfl⟩; have:=List.mem_range.1 hn; omega
 · rintro ⟨h1,h2⟩; exact ⟨x.toNat,List.mem_range.2 (by omega),by omega⟩
theorem filterMap_filter' {α β:Type} {f:α→Option β} {p:α→Bool}:∀ {l:List α},(∀ x∈l,p x=false→f x=none)→(l.filter p).filterMap f=l.filterMap f
 | [],_=>rfl
 | a::l,h=>by
  have ih:=filterMap_filter' (f:=f) (p:=p) (l:=l) fun x hx=>h x (List.mem_cons_of_mem _ hx)
  cases e:p a with
  | true=>rw [List.filter_cons_of_pos e,List.filterMap_cons,List.filterMap_cons,ih]
  | false=>rw [List.filter_cons_of_neg (by rw [e]; decide),List.filterMap_cons,h a List.mem_cons_self e,ih]
theorem lat_dev {o:OP} (h:okO o=true):∀ d∈lat o,0≤d.1∧d.1<512∧1≤d.2∧d.2≤1048576:=fun d hd=>by
 have h1:=(isDot_iff.1 (valid_of h).1)
 simp only at h1
 rcases List.mem_append.1 hd with hd | hd
 · exact isDot_iff.1 ((ok_cx h).dots d hd)
 · split at hd
   · rw [List.mem_singleton.1 hd]; simp only; omega
   · cases hd
theorem mis_keys {m:List OP} (hv:∀ o∈m,okO o=true) {ks:List Int} (hs:ks.Pairwise (·<·)) (hk:∀ x,x∈ks↔x∈dvs (lats m)):ks.filterMap (misF m)=mis m:=by
 have hin:∀ x∈ks,0≤x∧x<512:=fun x hx=>by
  obtain ⟨d,hd,rfl⟩:=List.mem_map.1 ((hk x).1 hx)
  obtain ⟨l,hl,hd⟩:=List.mem_flatten.1 hd
  obtain ⟨o,ho,rfl⟩:=List.mem_map.1 hl
  have:=lat_dev (hv o ho) d hd
  exact ⟨this.1,this.2.1⟩
 have e:ks=i512.filter fun x=>decide (x∈ks):=int_sorted hs (i512_sorted.filter _) fun x=>by
  rw [List.mem_filter,mem_i512,decide_eq_true_eq]
  exact ⟨fun h=>⟨hin x h,h⟩,fun h=>h.2⟩
 unfold mis
 rw [e]
 refine filterMap_filter' fun x _ hx=>?_
 have hx:x∉ks:=of_decide_eq_false hx
 unfold misF ndOf
 rw [ndA_not x 0 fun h=>hx ((hk x).2 h),if_neg]
 have:=(frs_ge m x (m.length+1) 1).1
 omega
end Go.Mg


namespace Go.Mg
open Go Go.Am Go.Proofs Go.Seat Go.Vec Go.Cdc Go.Ops
theorem del_w (xs:List (List AV)) (g n i:Nat) (hw:xs.length≤1000000) (hn:n≤xs.length) (hi:i<n) (hd:∀ x∈xs,AV.idsInL [] x=true) (out:AOut) (H':List AObj) (h:((i - 0+List.length (List.take (n - (i+1)) (List.drop (0+(i+1)) xs))≤List.length xs)∧((List.length (List.take (n - (i+1)) (List.drop (0+(i+1)) xs))=n - (i+1))∧(((0:Int)≤(↑(i - 0+List.length (List.take (n - (i+1)) (List.drop (0+(i+1)) xs))):Int)∧(↑(i - 0+List.length (List.take (n - (i+1)) (List.drop (0+(i+1)) xs))):Int)≤(n:Int)∧(0:Int)+(n:Int)≤(↑(List.length (List.take (i - 0) xs++(List.take (n - (i+1)) (List.drop (0+(i+1)) xs)++List.drop (i - 0+List.length (List.take (n - (i+1)) (List.drop (0+(i+1)) xs))) xs))):Int))∧(AOut.ret (AV.own 0 (g+1) 0 (Int.toNat (i:Int) - 0+List.length (List.take (Int.toNat (n:Int) - Int.toNat (↑(i+1):Int)) (List.drop (0+Int.toNat (↑(i+1):Int)) xs))))=out)∧([AObj.arr (g+1) 17 false (List.take (0+Int.toNat (↑(Int.toNat (i:Int) - Int.toNat 0+List.length (List.take (Int.toNat (n:Int) - Int.toNat (↑(i+1):Int)) (List.drop (0+Int.toNat (↑(i+1):Int)) xs))):Int)) (List.take (Int.toNat (i:Int) - 0) xs++(List.take (Int.toNat (n:Int) - Int.toNat (↑(i+1):Int)) (List.drop (0+Int.toNat (↑(i+1):Int)) xs)++List.drop (Int.toNat (i:Int) - 0+List.length (List.take (Int.toNat (n:Int) - Int.toNat (↑(i+1):Int)) (List.drop (0+Int.toNat (↑(i+1):Int)) xs))) xs))++(List.replicate (Int.toNat (n:Int) - Int.toNat (↑(Int.toNat (i:Int) - Int.toNat 0+List.length (List.take (Int.toNat (n:Int) - Int.toNat (↑(i+1):Int)) (List.drop (0+Int.toNat (↑(i+1):Int)) xs))):Int)) [int 0,int 0,int 0,nilS,int 0,str (ByteArray.mk #[]),int 0,int 0,int 0,int 0,int 0,int 0,int 0,str (ByteArray.mk #[]),str (ByteArray.mk #[]),int 0,Am.bool false]++List.drop (0+Int.toNat (↑(Int.toNat (i:Int) - Int.toNat 0+List.length (List.take (Int.toNat (n:Int) - Int.toNat (↑(i+1):Int)) (List.drop (0+Int.toNat (↑(i+1):Int)) xs))):Int)+(Int.toNat (n:Int) - Int.toNat (↑(Int.toNat (i:Int) - Int.toNat 0+List.length (List.take (Int.toNat (n:Int) - Int.toNat (↑(i+1):Int)) (List.drop (0+Int.toNat (↑(i+1):Int)) xs))):Int))) (List.take (Int.toNat (i:Int) - 0) xs++(List.take (Int.toNat (n:Int) - Int.toNat (↑(i+1):Int)) (List.drop (0+Int.toNat (↑(i+1):Int)) xs)++List.drop (Int.toNat (i:Int) - 0+List.length (List.take (Int.toNat (n:Int) - Int.toNat (↑(i+1):Int)) (List.drop (0+Int.toNat (↑(i+1):Int)) xs))) xs))))]=H'))))):CallC P G 40 [.own 0 g 0 n,int ↑i,int ↑(i+1)] [AObj.arr g 17 false xs] out H':=by
 have hz0:g=g:=(rfl)
 have hz5:g+1=g+1:=(rfl)
 obtain ⟨o2,h⟩:=h
 obtain ⟨o3,h⟩:=h
 obtain ⟨o4,h⟩:=h
 obtain ⟨e1,eH⟩:=h
 exact CallC.heap (e1 ▸ ((show CallC P G 40 [.own 0 g 0 n,int ↑i,int ↑(i+1)] [AObj.arr g 17 false xs] (AOut.ret (AV.own 0 (g+1) 0 (Int.toNat (i:Int) - 0+List.length (List.take (Int.toNat (n:Int) - Int.toNat (↑(i+1):Int)) (List.drop (0+Int.toNat (↑(i+1):Int)) xs))))) [AObj.arr (g+1) 17 false (List.take (0+Int.toNat (↑(Int.toNat (i:Int) - Int.toNat 0+List.length (List.take (Int.toNat (n:Int) - Int.toNat (↑(i+1):Int)) (List.drop (0+Int.toNat (↑(i+1):Int)) xs))):Int)) (List.take (Int.toNat (i:Int) - 0) xs++(List.take (Int.toNat (n:Int) - Int.toNat (↑(i+1):Int)) (List.drop (0+Int.toNat (↑(i+1):Int)) xs)++List.drop (Int.toNat (i:Int) - 0+List.length (List.take (Int.toNat (n:Int) - Int.toNat (↑(i+1):Int)) (List.drop (0+Int.toNat (↑(i+1):Int)) xs))) xs))++(List.replicate (Int.toNat (n:Int) - Int.toNat (↑(Int.toNat (i:Int) - Int.toNat 0+List.length (List.take (Int.toNat (n:Int) - Int.toNat (↑(i+1):Int)) (List.drop (0+Int.toNat (↑(i+1):Int)) xs))):Int)) [int 0,int 0,int 0,nilS,int 0,str (ByteArray.mk #[]),int 0,int 0,int 0,int 0,int 0,int 0,int 0,str (ByteArray.mk #[]),str (ByteArray.mk #[]),int 0,Am.bool false]++List.drop (0+Int.toNat (↑(Int.toNat (i:Int) - Int.toNat 0+List.length (List.take (Int.toNat (n:Int) - Int.toNat (↑(i+1):Int)) (List.drop (0+Int.toNat (↑(i+1):Int)) xs))):Int)+(Int.toNat (n:Int) - Int.toNat (↑(Int.toNat (i:Int) - Int.toNat 0+List.length (List.take (Int.toNat (n:Int) - Int.toNat (↑(i+1):Int)) (List.drop (0+Int.toNat (↑(i+1):Int)) xs))):Int))) (List.take (Int.toNat (i:Int) - 0) xs++(List.take (Int.toNat (n:Int) - Int.toNat (↑(i+1):Int)) (List.drop (0+Int.toNat (↑(i+1):Int)) xs)++List.drop (Int.toNat (i:Int) - 0+List.length (List.take (Int.toNat (n:Int) - Int.toNat (↑(i+1):Int)) (List.drop (0+Int.toNat (↑(i+1):Int)) xs))) xs))))] from callC_of [kp hz0,kp hz0,kp (show (0:Int)≤(i:Int)∧(i:Int)≤(↑(i+1):Int)∧(↑(i+1):Int)≤(n:Int)∧(n:Int)≤(n:Int) from (by omega)),kf (show ((i:Int) == (↑(i+1):Int))=false from (qF (by omega))),ko (Orc.own),ko (Orc.callA (AOut.ret AV.dead) []),kp hz0,kp hz0,kSl (0:Int) (i:Int) (n:Int),kp hz0,kSl (↑(i+1):Int) (n:Int) (n:Int),kp hz0,kp o2,kp hz0,kp o3,kp hz5,kp hz5,kp o4,kp (show 0<17 from (by omega)),kp hz5,kp (show 0+Int.toNat (↑(Int.toNat (i:Int) - Int.toNat 0+List.length (List.take (Int.toNat (n:Int) - Int.toNat (↑(i+1):Int)) (List.drop (0+Int.toNat (↑(i+1):Int)) xs))):Int)+(Int.toNat (n:Int) - Int.toNat (↑(Int.toNat (i:Int) - Int.toNat 0+List.length (List.take (Int.toNat (n:Int) - Int.toNat (↑(i+1):Int)) (List.drop (0+Int.toNat (↑(i+1):Int)) xs))):Int))≤List.length (List.take (Int.toNat (i:Int) - 0) xs++(List.take (Int.toNat (n:Int) - Int.toNat (↑(i+1):Int)) (List.drop (0+Int.toNat (↑(i+1):Int)) xs)++List.drop (Int.toNat (i:Int) - 0+List.length (List.take (Int.toNat (n:Int) - Int.toNat (↑(i+1):Int)) (List.drop (0+Int.toNat (↑(i+1):Int)) xs))) xs)) from (by simp only [Int.toNat_natCast] at *; omega))]))) eH
def snE (S:List D):List (Value × AV):=S.map fun d=>(.int .i64 d.1,int d.2)
theorem sn_ids (S:List D) (n:Nat):∀ e∈snE S,AV.idsLt n e.2=true:=fun e he=>by
 obtain ⟨x,_,rfl⟩:=List.mem_map.1 he
 rfl
noncomputable def jR:AObj:=.rng .ready none (slots 48 [(4,.ptr 2 0)]) #[22] (asgAt P 16 0) (rbodyAt P 16 0)
noncomputable def jD:AObj:=.rng .done (some (.exit 3)) (slots 48 [(4,.ptr 2 0)]) #[22] (asgAt P 16 0) (rbodyAt P 16 0)
noncomputable def rH (o:OP) (S:List D):List AObj:=[jR,.box (opc o),.box [.mp 3],.map (snE S)]
noncomputable def rD (o:OP) (S:List D):List AObj:=[jD,.box (opc o),.box [.mp 3],.map (snE S)]
theorem ry_t (o:OP) (S:List D) (a b v:Int) (f:Bool) (hG:MapGet P 3 (snE S) (.int .i64 a) (int 0) (int v) f) (hv:¬ v<b) (h:True):YieldC P G 0 [dot (a,b)] (rH o S) true (rH o S):=by
 have _:=h
 exact yieldC_of (fun _=>[ko (Orc.mget (int v) f),kp hG,kj (v<b),kp (show ∀ (e:Value × AV),e∈snE S→AV.idsLt (List.length (rH o S)) e.2=true from (sn_ids _ _))]) (fun _=>by kernel_rfl)
theorem rz_t (o:OP) (S:List D) (a b v:Int) (f:Bool) (hG:MapGet P 3 (snE S) (.int .i64 a) (int 0) (int v) f) (hv:¬ v<b) (h:True):YieldC P G 0 [dot (a,b)] (rH o S++[AObj.box [int a,int b]]) true (rH o S++[AObj.box [int a,int b]]):=by
 have _:=h
 exact yieldC_of (fun _=>[ko (Orc.mget (int v) f),kp hG,kj (v<b),kp (show ∀ (e:Value × AV),e∈snE S→AV.idsLt (List.length (rH o S++[AObj.box [int a,int b]])) e.2=true from (sn_ids _ _))]) (fun _=>by kernel_rfl)
theorem ry_f (o:OP) (S:List D) (a b v:Int) (f:Bool) (hG:MapGet P 3 (snE S) (.int .i64 a) (int 0) (int v) f) (hv:v<b) (h:True):YieldC P G 0 [dot (a,b)] (rH o S) false (rD o S):=by
 have _:=h
 exact yieldC_of (fun _=>[ko (Orc.mget (int v) f),kp hG,ki (v<b),kp (show ∀ (e:Value × AV),e∈snE S→AV.idsLt (List.length (rH o S)) e.2=true from (sn_ids _ _))]) (fun _=>by kernel_rfl)
theorem rz_f (o:OP) (S:List D) (a b v:Int) (f:Bool) (hG:MapGet P 3 (snE S) (.int .i64 a) (int 0) (int v) f) (hv:v<b) (h:True):YieldC P G 0 [dot (a,b)] (rH o S++[AObj.box [int a,int b]]) false (rD o S++[AObj.box [int a,int b]]):=by
 have _:=h
 exact yieldC_of (fun _=>[ko (Orc.mget (int v) f),kp hG,ki (v<b),kp (show ∀ (e:Value × AV),e∈snE S→AV.idsLt (List.length (rH o S++[AObj.box [int a,int b]])) e.2=true from (sn_ids _ _))]) (fun _=>by kernel_rfl)
def ltS (o:OP) (H:List AObj) (k:Nat):St:={ env:=slots 31 [(0,.yl 0),(1,.ptr 1 0),(6,vec o.cx),(7,int o.cx.length),(8,int k)],H:=H }
theorem lt_t (o:OP) (S:List D) (k:Nat) (a b:Int) (hl:o.cx.length≤1000000000) (hk:(k:Int)<(o.cx.length:Int)) (hx:o.cx[k]? = some (a,b)) (hY:YieldC P G 0 [dot (a,b)] (rH o S++[.box [int a,int b]]) true (rH o S++[.box [int a,int b]])) (ex:AEx) (s':St) (h:Rq 4 71 0 (sM 31 [(0,.yl 0),(1,.ptr 1 0),(6,vec o.cx),(7,int ↑(List.length o.cx)),(8,int ↑(k+1))] [jR,.box (opc o),.box [.mp 3],.map (snE S)]) ex s'):Rq 4 71 0 (ltS o (rH o S) k) ex s':=by
 exact loop_next [ki ((k:Int)<(↑(List.length o.cx):Int)),ko (Orc.elem (Vec.enc (a,b))),ko (Orc.call [] (AOut.ret (Am.bool true)) (rH o S++[AObj.box [int a,int b]])),kp (show (0:Int)≤(k:Int)∧(encs o.cx)[Int.toNat (k:Int)]? = some (Vec.enc (a,b)) from (el_nat hx)),kp hY,kY,kW 16 (k+1) ↑(k+1),kp (show ∀ (e:Value × AV),e∈snE S→AV.idsLt 4 e.2=true from (sn_ids _ _))] (others 31 [0,1,6,7,8]) 4 h
theorem lt_f (o:OP) (S:List D) (k:Nat) (a b:Int) (hl:o.cx.length≤1000000000) (hk:(k:Int)<(o.cx.length:Int)) (hx:o.cx[k]? = some (a,b)) (hY:YieldC P G 0 [dot (a,b)] (rH o S++[.box [int a,int b]]) false (rD o S++[.box [int a,int b]])) (h:True):Rq 4 71 0 (ltS o (rH o S) k) AEx.ret (St.mk (slots 31 []) (rD o S) []):=by
 have _:=h
 exact loop_exit [ki ((k:Int)<(↑(List.length o.cx):Int)),ko (Orc.elem (Vec.enc (a,b))),ko (Orc.call [] (AOut.ret (Am.bool false)) (rD o S++[AObj.box [int a,int b]])),kp (show (0:Int)≤(k:Int)∧(encs o.cx)[Int.toNat (k:Int)]? = some (Vec.enc (a,b)) from (el_nat hx)),kp hY,kO,kp (show ∀ (e:Value × AV),e∈snE S→AV.idsLt 4 e.2=true from (sn_ids _ _))] (others 31 []) 4
theorem lt_e (o:OP) (S:List D) (k:Nat) (hl:o.cx.length≤1000000000) (hk:¬ (k:Int)<(o.cx.length:Int)) (h:True):Rq 4 71 0 (ltS o (rH o S) k) (AEx.exit 0) (St.mk (slots 31 [(0,AV.yl 0),(1,AV.ptr 1 0)]) (rH o S) []):=by
 have _:=h
 exact loop_exit [kj ((k:Int)<(↑(List.length o.cx):Int))] (others 31 [0,1]) 4
theorem la_r (o:OP) (S:List D) (hl:o.cx.length≤1000000000) (hL:Rq 4 71 0 (ltS o (rH o S) 0) .ret { env:=slots 31 [],H:=rD o S }) (h:True):CallC P G 71 [.yl 0,.ptr 1 0] (rH o S) (AOut.ret (AV.tup [])) (rD o S):=by
 have _:=h
 exact callC_of [kN 7 (Go.Vec.encs_length o.cx),kl (rG [(2,4),(9,22)]) 4 hL]
theorem la_1 (o:OP) (S:List D) (hl:o.cx.length≤1000000000) (hs:¬ 1<o.sq) (hL:Rq 4 71 0 (ltS o (rH o S) 0) (.exit 0) { env:=slots 31 [(0,.yl 0),(1,.ptr 1 0)],H:=rH o S }) (h:True):CallC P G 71 [.yl 0,.ptr 1 0] (rH o S) (AOut.ret (AV.tup [])) (rH o S):=by
 have _:=h
 exact callC_of [kN 7 (Go.Vec.encs_length o.cx),kl (rG [(2,4),(9,22)]) 4 hL,kj (o.sq > 1)]
theorem la_t (o:OP) (S:List D) (hl:o.cx.length≤1000000000) (hs:1<o.sq) (hq:o.sq≤1048576) (hY:YieldC P G 0 [dot (o.dv,o.sq - 1)] (rH o S) true (rH o S)) (hL:Rq 4 71 0 (ltS o (rH o S) 0) (.exit 0) { env:=slots 31 [(0,.yl 0),(1,.ptr 1 0)],H:=rH o S }) (h:True):CallC P G 71 [.yl 0,.ptr 1 0] (rH o S) (AOut.ret (AV.tup [])) (rH o S):=by
 have _:=h
 exact callC_of [kN 7 (Go.Vec.encs_length o.cx),kl (rG [(2,4),(9,22)]) 4 hL,ki (o.sq > 1),kW 28 (o.sq - 1) (o.sq - 1),ko (Orc.call [] (AOut.ret (Am.bool true)) (rH o S)),kp hY]
theorem la_f (o:OP) (S:List D) (hl:o.cx.length≤1000000000) (hs:1<o.sq) (hq:o.sq≤1048576) (hY:YieldC P G 0 [dot (o.dv,o.sq - 1)] (rH o S) false (rD o S)) (hL:Rq 4 71 0 (ltS o (rH o S) 0) (.exit 0) { env:=slots 31 [(0,.yl 0),(1,.ptr 1 0)],H:=rH o S }) (h:True):CallC P G 71 [.yl 0,.ptr 1 0] (rH o S) (AOut.ret (AV.tup [])) (rD o S):=by
 have _:=h
 exact callC_of [kN 7 (Go.Vec.encs_length o.cx),kl (rG [(2,4),(9,22)]) 4 hL,ki (o.sq > 1),kW 28 (o.sq - 1) (o.sq - 1),ko (Orc.call [] (AOut.ret (Am.bool false)) (rD o S)),kp hY]
end Go.Mg


namespace Go.Mg
open Go Go.Am Go.Proofs Go.Seat Go.Vec Go.Cdc Go.Ops
end Go.Mg


namespace Go.Mg
open Go Go.Am Go.Proofs Go.Seat Go.Vec Go.Cdc Go.Ops
def rB (xs:List (List AV)) (g:Nat) (S:List D):List AObj:=[.gone,.gone,.gone,.gone,.gone,.gone,.gone,.gone,.arr g 17 false xs,.map (snE S),.box [.mp 9]]
def rB1 (xs:List (List AV)) (g:Nat) (S:List D) (g2:Nat) (v:List OP):List AObj:=rB xs g S++[.gone,.gone,.dfd,.gone,.arr g2 17 false (ocs v)]
def rS0 (xs:List (List AV)) (g n:Nat) (S:List D):St:={ env:=slots 48 [(2,nilS),(3,.own 8 g 0 n),(4,.ptr 10 0)],H:=rB xs g S,defs:=[.bag 10] }
def rC0 (xs:List (List AV)) (g n:Nat) (S:List D) (i:Nat):St:={ env:=slots 48 [(2,nilS),(3,.own 8 g 0 n),(4,.ptr 10 0),(13,.own 8 g 0 n),(14,int n),(15,int i)],H:=rB xs g S,defs:=[.bag 10] }
def rS1 (xs:List (List AV)) (g n:Nat) (S:List D) (g2:Nat) (v:List OP):St:={ env:=slots 48 [(2,.own 15 g2 0 v.length),(3,.own 8 g 0 n),(4,.ptr 10 0)],H:=rB1 xs g S g2 v,defs:=[.bag 13,.mbag 13 10] }
def rC1 (xs:List (List AV)) (g n:Nat) (S:List D) (g2:Nat) (v:List OP) (i:Nat):St:={ env:=slots 48 [(2,.own 15 g2 0 v.length),(3,.own 8 g 0 n),(4,.ptr 10 0),(13,.own 8 g 0 n),(14,int n),(15,int i)],H:=rB1 xs g S g2 v,defs:=[.bag 13,.mbag 13 10] }
theorem sn_in (S:List D):∀ e∈snE S,AV.idsIn [] e.2=true:=fun e he=>by
 obtain ⟨x,_,rfl⟩:=List.mem_map.1 he
 rfl
theorem rn0_w (xs:List (List AV)) (g n i:Nat) (S:List D) (o:OP) (hw:n≤1000000) (hxs:∀ x∈xs,AV.idsInL [] x=true) (hi:(i:Int)<(n:Int)) (hx:xs[0+i]? = some (opc o)) (hF:CallC P G 71 [.yl 0,.ptr 1 0] (rH o S) (.ret (.tup [])) (rD o S)) (ex:AEx) (s':St) (h:Rq 0 16 1 (St.mk (slots 48 [(2,nilS),(3,AV.own 8 g 0 n),(4,AV.ptr 10 0),(13,AV.own 8 g 0 n),(14,int ↑n),(15,int ↑(i+1))]) [AObj.gone,AObj.gone,AObj.gone,AObj.gone,AObj.gone,AObj.gone,AObj.gone,AObj.gone,AObj.arr g 17 false xs,AObj.map (snE S),AObj.box [AV.mp 9]] [ADef.bag 10]) ex s'):Rq 0 16 1 (rC0 xs g n S i) ex s':=by
 have hz1:g=g:=(rfl)
 have hz5:∀ (e:Value × AV),e∈snE S→AV.idsIn [] e.2=true:=(sn_in _)
 exact loop_next [ki ((i:Int)<n),ko (Orc.elem (opc o)),kp hz1,kR (i:Int) (n:Int),kp hz1,kp hx,kc [] (@latest_w (o) (trivial)),ko (Orc.range [2,3,5,6,13,14,15,16,17,18,19,20,21] 0 none AEx.normal [] []),kc [14,12,10,9] hF,kp hz5,kp hz5,kW 46 (i+1) ↑(i+1),kp (show ∀ (x:List AV),x∈xs→AV.idsInL [] x=true from (by omega)),kp (show ∀ (e:Value × AV),e∈snE S→AV.idsLt 11 e.2=true from (sn_ids _ _))] (others 48 [2,3,4,13,14,15]) 11 h
theorem ry0_w (xs ys:List (List AV)) (g n m i:Nat) (S S':List D) (o:OP) (hw:n≤1000000) (hys:∀ x∈ys,AV.idsInL [] x=true) (hxs:∀ x∈xs,AV.idsInL [] x=true) (hi:(i:Int)<(n:Int)) (hx:xs[0+i]? = some (opc o)) (hF:CallC P G 71 [.yl 0,.ptr 1 0] (rH o S) (.ret (.tup [])) (rH o S)) (hP:MapPut P 3 (snE S) (.int .i64 o.dv) (int o.sq) (snE S')) (hD:CallC P G 40 [.own 0 g 0 n,int i,int (i+1:Nat)] [.arr g 17 false xs] (.ret (.own 0 (g+1) 0 m)) [.arr (g+1) 17 false ys]) (h:True):Rq 0 16 1 (rC0 xs g n S i) (AEx.exit 1) (rS1 ys (g+1) m S' 0 [o]):=by
 have hz1:g=g:=(rfl)
 have hz5:∀ (e:Value × AV),e∈snE S→AV.idsIn [] e.2=true:=(sn_in _)
 have hz11:∀ (x:List AV),x∈ys→AV.idsInL [] x=true:=(by omega)
 have _:=h
 exact RunL.to (RunL.postH ((show Rq 0 16 1 (rC0 xs g n S i) (AEx.exit 1) (St.mk (slots 48 [(2,AV.own 15 0 0 (List.length [o])),(3,AV.own 8 (g+1) 0 m),(4,AV.ptr 10 0)]) [AObj.gone,AObj.gone,AObj.gone,AObj.gone,AObj.gone,AObj.gone,AObj.gone,AObj.gone,AObj.arr (g+1) 17 false ys,AObj.map (snE S'),AObj.box [AV.mp 9],AObj.box [int o.dv,int o.sq,int o.tm,AV.sl 2 false (encs o.cx),int o.pk,str o.pn,int o.kd,int o.f1,int o.f2,int o.f3,int o.t1,int o.t2,int o.t3,str o.ky,str o.vl,int o.n,Am.bool o.on],AObj.box [int o.dv,int o.sq,int o.tm,AV.sl 2 false (encs o.cx),int o.pk,str o.pn,int o.kd,int o.f1,int o.f2,int o.f3,int o.t1,int o.t2,int o.t3,str o.ky,str o.vl,int o.n,Am.bool o.on],AObj.dfd,AObj.gone,AObj.arr 0 17 false (ocs [o])] [ADef.bag 13,ADef.mbag 13 10]) from loop_exit [ki ((i:Int)<n),ko (Orc.elem (opc o)),kp hz1,kR (i:Int) (n:Int),kp hz1,kp hx,kc [] (@latest_w (o) (trivial)),ko (Orc.range [2,3,5,6,13,14,15,16,17,18,19,20,21] 0 none AEx.normal [] []),kc [14,12,10,9] hF,ko (Orc.mput (snE S')),kp hz5,kp hz5,kne (opc o),kBd 176,kp hP,kW 44 (i+1) ↑(i+1),kc [8] hD,kp hz11,kp (show ∀ (x:List AV),x∈xs→AV.idsInL [] x=true from (by omega)),kp hz11,kp (show ∀ (e:Value × AV),e∈snE S'→AV.idsLt 16 e.2=true from (sn_ids _ _)),kp (show ∀ (x:List AV),x∈[[int o.dv,int o.sq,int o.tm,AV.sl 2 false (encs o.cx),int o.pk,str o.pn,int o.kd,int o.f1,int o.f2,int o.f3,int o.t1,int o.t2,int o.t3,str o.ky,str o.vl,int o.n,Am.bool o.on]]→AV.idsInL [] x=true from (by exact (Am.allm_cons rfl Am.allm_nil)))] (others 48 [2,3,4]) 16)) (by exact ⟨.inl rfl,.inl rfl,.inl rfl,.inl rfl,.inl rfl,.inl rfl,.inl rfl,.inl rfl,.inl rfl,.inl rfl,.inl rfl,.inr trivial,.inr trivial,.inl rfl,.inl rfl,.inl rfl,trivial⟩)) rfl (SubS.slots ⟨rfl,Sub.refl _,rfl,Sub.refl _,rfl,Sub.refl _,trivial⟩)
theorem re0_w (xs:List (List AV)) (g n i:Nat) (S:List D) (hw:n≤1000000) (hxs:∀ x∈xs,AV.idsInL [] x=true) (hi:¬ (i:Int)<(n:Int)) (ex:AEx) (s':St) (h:(AEx.exit 2=ex)∧(St.mk (slots 48 [(2,nilS)]) [AObj.gone,AObj.gone,AObj.gone,AObj.gone,AObj.gone,AObj.gone,AObj.gone,AObj.gone,AObj.arr g 17 false xs,AObj.map (snE S),AObj.box [AV.mp 9]] [ADef.bag 10]=s')):Rq 0 16 1 (rC0 xs g n S i) ex s':=by
 obtain ⟨eX,eS⟩:=h
 exact RunL.to ((show Rq 0 16 1 (rC0 xs g n S i) (AEx.exit 2) (St.mk (slots 48 [(2,nilS)]) [AObj.gone,AObj.gone,AObj.gone,AObj.gone,AObj.gone,AObj.gone,AObj.gone,AObj.gone,AObj.arr g 17 false xs,AObj.map (snE S),AObj.box [AV.mp 9]] [ADef.bag 10]) from loop_exit [kj ((i:Int)<n)] (others 48 [2]) 11)) eX (SubS.of_eq eS)
theorem rn1_w (xs:List (List AV)) (g n i:Nat) (S:List D) (g2:Nat) (v:List OP) (hv:v.length≤1000000) (o:OP) (hw:n≤1000000) (hxs:∀ x∈xs,AV.idsInL [] x=true) (hi:(i:Int)<(n:Int)) (hx:xs[0+i]? = some (opc o)) (hF:CallC P G 71 [.yl 0,.ptr 1 0] (rH o S) (.ret (.tup [])) (rD o S)) (ex:AEx) (s':St) (h:Rq 0 16 1 (St.mk (slots 48 [(2,AV.own 15 g2 0 v.length),(3,AV.own 8 g 0 n),(4,AV.ptr 10 0),(13,AV.own 8 g 0 n),(14,int ↑n),(15,int ↑(i+1))]) [AObj.gone,AObj.gone,AObj.gone,AObj.gone,AObj.gone,AObj.gone,AObj.gone,AObj.gone,AObj.arr g 17 false xs,AObj.map (snE S),AObj.box [AV.mp 9],AObj.gone,AObj.gone,AObj.dfd,AObj.gone,AObj.arr g2 17 false (ocs v)] [ADef.bag 13,ADef.mbag 13 10]) ex s'):Rq 0 16 1 (rC1 xs g n S g2 v i) ex s':=by
 have hz1:g=g:=(rfl)
 have hz5:∀ (e:Value × AV),e∈snE S→AV.idsIn [] e.2=true:=(sn_in _)
 exact loop_next [ki ((i:Int)<n),ko (Orc.elem (opc o)),kp hz1,kR (i:Int) (n:Int),kp hz1,kp hx,kc [] (@latest_w (o) (trivial)),ko (Orc.range [2,3,5,6,13,14,15,16,17,18,19,20,21] 0 none AEx.normal [] []),kc [19,17,10,9] hF,kp hz5,kp hz5,kW 46 (i+1) ↑(i+1),kp (show ∀ (x:List AV),x∈xs→AV.idsInL [] x=true from (by omega)),kp (show ∀ (e:Value × AV),e∈snE S→AV.idsLt 16 e.2=true from (sn_ids _ _)),kp (ocs_ids v)] (others 48 [2,3,4,13,14,15]) 16 h
theorem ry1_w (xs ys:List (List AV)) (g n m i:Nat) (S S':List D) (g2:Nat) (v:List OP) (hv:v.length≤1000000) (o:OP) (hw:n≤1000000) (hys:∀ x∈ys,AV.idsInL [] x=true) (hxs:∀ x∈xs,AV.idsInL [] x=true) (hi:(i:Int)<(n:Int)) (hx:xs[0+i]? = some (opc o)) (hF:CallC P G 71 [.yl 0,.ptr 1 0] (rH o S) (.ret (.tup [])) (rH o S)) (hP:MapPut P 3 (snE S) (.int .i64 o.dv) (int o.sq) (snE S')) (hD:CallC P G 40 [.own 0 g 0 n,int i,int (i+1:Nat)] [.arr g 17 false xs] (.ret (.own 0 (g+1) 0 m)) [.arr (g+1) 17 false ys]) (h:(Sub (slotAt [(2,AV.own 15 (g2+1) 0 (List.length v+1)),(3,AV.own 8 (g+1) 0 m),(4,AV.ptr 10 0)] 2) (slotAt [(2,AV.own 15 (g2+1) 0 (List.length (v++[o]))),(3,AV.own 8 (g+1) 0 m),(4,AV.ptr 10 0)] 2))∧([AObj.gone,AObj.gone,AObj.gone,AObj.gone,AObj.gone,AObj.gone,AObj.gone,AObj.gone,AObj.arr (g+1) 17 false ys,AObj.map (snE S'),AObj.box [AV.mp 9],AObj.gone,AObj.gone,AObj.dfd,AObj.gone,AObj.arr (g2+1) 17 false (ocs v++ocs [o])]=rB1 ys (g+1) S' (g2+1) (v++[o]))):Rq 0 16 1 (rC1 xs g n S g2 v i) (AEx.exit 1) (rS1 ys (g+1) m S' (g2+1) (v++[o])):=by
 have hz1:g=g:=(rfl)
 have hz5:∀ (e:Value × AV),e∈snE S→AV.idsIn [] e.2=true:=(sn_in _)
 have hz12:∀ (x:List AV),x∈ys→AV.idsInL [] x=true:=(by omega)
 obtain ⟨e1,eH⟩:=h
 exact RunL.to ((show Rq 0 16 1 (rC1 xs g n S g2 v i) (AEx.exit 1) (St.mk (slots 48 [(2,AV.own 15 (g2+1) 0 (List.length v+1)),(3,AV.own 8 (g+1) 0 m),(4,AV.ptr 10 0)]) [AObj.gone,AObj.gone,AObj.gone,AObj.gone,AObj.gone,AObj.gone,AObj.gone,AObj.gone,AObj.arr (g+1) 17 false ys,AObj.map (snE S'),AObj.box [AV.mp 9],AObj.gone,AObj.gone,AObj.dfd,AObj.gone,AObj.arr (g2+1) 17 false (ocs v++ocs [o])] [ADef.bag 13,ADef.mbag 13 10]) from loop_exit [ki ((i:Int)<n),ko (Orc.elem (opc o)),kp hz1,kR (i:Int) (n:Int),kp hz1,kp hx,kc [] (@latest_w (o) (trivial)),ko (Orc.range [2,3,5,6,13,14,15,16,17,18,19,20,21] 0 none AEx.normal [] []),kc [19,17,10,9] hF,ko (Orc.mput (snE S')),kp hz5,kp hz5,kq g2,kp (ocs_length v).symm,kBd ((List.length v+1) * 176),kp hP,kW 44 (i+1) ↑(i+1),kc [8] hD,kp hz12,kp (show ∀ (x:List AV),x∈xs→AV.idsInL [] x=true from (by omega)),kp hz12,kp (show ∀ (e:Value × AV),e∈snE S'→AV.idsLt 16 e.2=true from (sn_ids _ _)),kp (show ∀ (x:List AV),x∈ocs v++[[int o.dv,int o.sq,int o.tm,AV.sl 2 false (encs o.cx),int o.pk,str o.pn,int o.kd,int o.f1,int o.f2,int o.f3,int o.t1,int o.t2,int o.t3,str o.ky,str o.vl,int o.n,Am.bool o.on]]→AV.idsInL [] x=true from (by exact (Am.allm_append (ocs_ids _) (Am.allm_cons rfl Am.allm_nil))))] (others 48 [2,3,4]) 16)) rfl (SubS.slotsH ⟨rfl,e1,rfl,Sub.refl _,rfl,Sub.refl _,trivial⟩ eH)
theorem re1_w (xs:List (List AV)) (g n i:Nat) (S:List D) (g2:Nat) (v:List OP) (hv:v.length≤1000000) (hw:n≤1000000) (hxs:∀ x∈xs,AV.idsInL [] x=true) (hi:¬ (i:Int)<(n:Int)) (ex:AEx) (s':St) (h:(AEx.exit 2=ex)∧(St.mk (slots 48 [(2,AV.own 15 g2 0 v.length)]) [AObj.gone,AObj.gone,AObj.gone,AObj.gone,AObj.gone,AObj.gone,AObj.gone,AObj.gone,AObj.arr g 17 false xs,AObj.map (snE S),AObj.box [AV.mp 9],AObj.gone,AObj.gone,AObj.dfd,AObj.gone,AObj.arr g2 17 false (ocs v)] [ADef.bag 13,ADef.mbag 13 10]=s')):Rq 0 16 1 (rC1 xs g n S g2 v i) ex s':=by
 obtain ⟨eX,eS⟩:=h
 exact RunL.to ((show Rq 0 16 1 (rC1 xs g n S g2 v i) (AEx.exit 2) (St.mk (slots 48 [(2,AV.own 15 g2 0 v.length)]) [AObj.gone,AObj.gone,AObj.gone,AObj.gone,AObj.gone,AObj.gone,AObj.gone,AObj.gone,AObj.arr g 17 false xs,AObj.map (snE S),AObj.box [AV.mp 9],AObj.gone,AObj.gone,AObj.dfd,AObj.gone,AObj.arr g2 17 false (ocs v)] [ADef.bag 13,ADef.mbag 13 10]) from loop_exit [kj ((i:Int)<n)] (others 48 [2]) 16)) eX (SubS.of_eq eS)
end Go.Mg


namespace Go.Mg
open Go Go.Am Go.Proofs Go.Seat Go.Vec Go.Cdc Go.Ops
def rX0 (xs:List (List AV)) (g:Nat) (S:List D):St:={ env:=slots 48 [(2,nilS)],H:=rB xs g S,defs:=[.bag 10] }
def rX1 (xs:List (List AV)) (g:Nat) (S:List D) (g2:Nat) (v:List OP):St:={ env:=slots 48 [(2,.own 15 g2 0 v.length)],H:=rB1 xs g S g2 v,defs:=[.bag 13,.mbag 13 10] }
theorem rm0_w (xs ys:List (List AV)) (g n m:Nat) (S S':List D) (o:OP) (hw:n≤1000000) (hxs:∀ x∈xs,AV.idsInL [] x=true) (hys:∀ x∈ys,AV.idsInL [] x=true) (hI:Rq 0 16 1 (rC0 xs g n S 0) (.exit 1) (rS1 ys (g+1) m S' 0 [o])) (ex:AEx) (s':St) (h:Rq 0 16 0 (St.mk (slots 48 [(2,AV.own 15 0 0 1),(3,AV.own 8 (g+1) 0 m),(4,AV.ptr 10 0)]) [AObj.gone,AObj.gone,AObj.gone,AObj.gone,AObj.gone,AObj.gone,AObj.gone,AObj.gone,AObj.arr (g+1) 17 false ys,AObj.map (snE S'),AObj.box [AV.mp 9],AObj.gone,AObj.gone,AObj.dfd,AObj.gone,AObj.arr 0 17 false [(opc o)]] [ADef.bag 13,ADef.mbag 13 10]) ex s'):Rq 0 16 0 (rS0 xs g n S) ex s':=by
 exact loop_next [ko (Orc.av (AV.tup [AV.dead,AV.agg [AV.ptr 13 0,AV.apt 13 10 0 0]])),kq g,kl [] 11 hI] (others 48 [2,3,4]) 16 h
theorem rx0_w (xs:List (List AV)) (g n:Nat) (S:List D) (hw:n≤1000000) (hxs:∀ x∈xs,AV.idsInL [] x=true) (hI:Rq 0 16 1 (rC0 xs g n S 0) (.exit 2) (rX0 xs g S)) (h:True):Rq 0 16 0 (rS0 xs g n S) AEx.ret (rX0 xs g S):=by
 have _:=h
 exact loop_exit [kq g,kl [] 11 hI] (others 48 [2]) 11
theorem rm1_w (xs ys:List (List AV)) (g n m g2:Nat) (S S':List D) (v:List OP) (o:OP) (hw:n≤1000000) (hxs:∀ x∈xs,AV.idsInL [] x=true) (hys:∀ x∈ys,AV.idsInL [] x=true) (hI:Rq 0 16 1 (rC1 xs g n S g2 v 0) (.exit 1) (rS1 ys (g+1) m S' (g2+1) (v++[o]))) (ex:AEx) (s':St) (h:Rq 0 16 0 (St.mk (slots 48 [(2,AV.own 15 (g2+1) 0 (List.length (v++[o]))),(3,AV.own 8 (g+1) 0 m),(4,AV.ptr 10 0)]) [AObj.gone,AObj.gone,AObj.gone,AObj.gone,AObj.gone,AObj.gone,AObj.gone,AObj.gone,AObj.arr (g+1) 17 false ys,AObj.map (snE S'),AObj.box [AV.mp 9],AObj.gone,AObj.gone,AObj.dfd,AObj.gone,AObj.arr (g2+1) 17 false (ocs (v++[o]))] [ADef.bag 13,ADef.mbag 13 10]) ex s'):Rq 0 16 0 (rS1 xs g n S g2 v) ex s':=by
 exact loop_next [kq g,kl [] 16 hI] (others 48 [2,3,4]) 16 h
theorem rx1_w (xs:List (List AV)) (g n g2:Nat) (S:List D) (v:List OP) (hw:n≤1000000) (hxs:∀ x∈xs,AV.idsInL [] x=true) (hI:Rq 0 16 1 (rC1 xs g n S g2 v 0) (.exit 2) (rX1 xs g S g2 v)) (h:True):Rq 0 16 0 (rS1 xs g n S g2 v) AEx.ret (rX1 xs g S g2 v):=by
 have _:=h
 exact loop_exit [kq g,kl [] 16 hI] (others 48 [2]) 16
theorem rd_0 (l u:List OP) (W:List (Value × AV)) (g:Nat) (xs:List (List AV)) (g3:Nat) (S:List D) (hu:u.length≤1000000) (hxs:∀ x∈xs,AV.idsInL [] x=true) (hk:CallC P G 36 [.sl 1 true (lls [l])] [] (.ret (.mp 0)) [.map W]) (hs:CallC P G 35 [.mp 0] [.map W] (.ret (.own 8 g 0 u.length)) [.gone,.gone,.gone,.gone,.gone,.gone,.gone,.gone,.arr g 17 false (ocs u)]) (hw:∀ e∈W,AV.idsIn [] e.2=true) (hL:Rq 0 16 0 (rS0 (ocs u) g u.length []) .ret (rX0 xs g3 S)) (h:True):Cq 16 [opl l] nilS:=by
 have hz1:∀ (e:Value × AV),e∈W→AV.idsIn [] e.2=true:=(by omega)
 have _:=h
 exact callC_of [kc [] hk,kp hz1,kc [0] hs,ko (Orc.av (AV.tup [AV.ptr 10 0,AV.agg [AV.ptr 10 0]])),kp (ocs_ids u),kp hz1,kl (rG [(0,2),(5,43)]) 11 hL]
theorem rd_1 (l u:List OP) (W:List (Value × AV)) (g:Nat) (xs:List (List AV)) (g3:Nat) (S:List D) (g2:Nat) (v:List OP) (hu:u.length≤1000000) (hv:v.length≤1000000) (hxs:∀ x∈xs,AV.idsInL [] x=true) (hk:CallC P G 36 [.sl 1 true (lls [l])] [] (.ret (.mp 0)) [.map W]) (hs:CallC P G 35 [.mp 0] [.map W] (.ret (.own 8 g 0 u.length)) [.gone,.gone,.gone,.gone,.gone,.gone,.gone,.gone,.arr g 17 false (ocs u)]) (hw:∀ e∈W,AV.idsIn [] e.2=true) (out:AOut) (H':List AObj) (hL:Rq 0 16 0 (rS0 (ocs u) g u.length []) .ret (rX1 xs g3 S g2 v)) (h:(AOut.ret (AV.own 15 g2 0 v.length)=out)∧([AObj.gone,AObj.gone,AObj.gone,AObj.gone,AObj.gone,AObj.gone,AObj.gone,AObj.gone,AObj.arr g3 17 false xs,AObj.map (snE S),AObj.box [AV.mp 9],AObj.gone,AObj.gone,AObj.gone,AObj.gone,AObj.arr g2 17 false (ocs v)]=H')):CallC P G 16 [opl l] [] out H':=by
 have hz1:∀ (e:Value × AV),e∈W→AV.idsIn [] e.2=true:=(by omega)
 obtain ⟨e1,eH⟩:=h
 exact CallC.heap (e1 ▸ ((show CallC P G 16 [opl l] [] (AOut.ret (AV.own 15 g2 0 v.length)) [AObj.gone,AObj.gone,AObj.gone,AObj.gone,AObj.gone,AObj.gone,AObj.gone,AObj.gone,AObj.arr g3 17 false xs,AObj.map (snE S),AObj.box [AV.mp 9],AObj.gone,AObj.gone,AObj.gone,AObj.gone,AObj.arr g2 17 false (ocs v)] from callC_of [kc [] hk,kp hz1,kc [0] hs,ko (Orc.av (AV.tup [AV.ptr 10 0,AV.agg [AV.ptr 13 0,AV.apt 13 10 0 0]])),kp (ocs_ids u),kp hz1,kl (rG [(0,2),(5,43)]) 11 hL]))) eH
def rSn:St:={ env:=slots 48 [(2,nilS),(3,nilS),(4,.ptr 2 0)],H:=[.gone,.map [],.box [.mp 1]] }
def rCn:St:={ env:=slots 48 [(2,nilS),(3,nilS),(4,.ptr 2 0),(13,nilS),(14,int 0),(15,int 0)],H:=[.gone,.map [],.box [.mp 1]] }
theorem rcn_w  (h:True):Rq 0 16 1 rCn (AEx.exit 2) (sM 48 [(2,nilS)] []):=by
 have _:=h
 exact loop_exit [kY] (others 48 [2]) 0
theorem rsn_w  (h:True):Rq 0 16 0 rSn AEx.ret (sM 48 [(2,nilS)] []):=by
 have _:=h
 exact loop_exit [kl [] 3 (@rcn_w (trivial))] (others 48 [2]) 0
theorem rd_n (l:List OP) (W:List (Value × AV)) (hk:CallC P G 36 [.sl 1 true (lls [l])] [] (.ret (.mp 0)) [.map W]) (hs:CallC P G 35 [.mp 0] [.map W] (.ret nilS) [.gone]) (hw:∀ e∈W,AV.idsIn [] e.2=true) (h:True):Cq 16 [opl l] nilS:=by
 have hz1:∀ (e:Value × AV),e∈W→AV.idsIn [] e.2=true:=(by omega)
 have _:=h
 exact callC_of [kc [] hk,kp hz1,kc [0] hs,kp hz1,kl (rG [(0,2),(5,43)]) 3 (@rsn_w (trivial))]
end Go.Mg


namespace Go.Mg
open Go Go.Am Go.Proofs Go.Seat Go.Vec Go.Cdc Go.Ops
theorem dt_beq (x:OP) (a b:Int):decide (dt x=(a,b))=(x.dv == a && x.sq == b):=by
 rw [Bool.eq_iff_iff]
 simp
theorem has_loop (l:List OP) (a b:Int) (hl:l.length≤1000000):∀ n k,l.length - k=n→k≤l.length→Rq 0 30 0 (hsS l a b k) (if has (l.drop k) a b=true then .ret else .exit 0) { env:=slots 19 [(4,Am.bool (has (l.drop k) a b))],H:=[.box [int a,int b]] }:=by
 intro n
 induction n with
 | zero =>
  intro k hn hk
  rw [List.drop_eq_nil_of_le (by omega)]
  exact has_w l a b k hl _ _ ⟨fun h=>absurd h (by omega),fun _=>⟨rfl,rfl⟩⟩
 | succ n ih =>
  intro k hn hk
  have hlt:k<l.length:=by omega
  have nx:=ih (k+1) (by omega) (by omega)
  rw [List.drop_eq_getElem_cons hlt]
  have e:has (l[k]::l.drop (k+1)) a b=((l[k].dv == a && l[k].sq == b) || has (l.drop (k+1)) a b):=by rw [← dt_beq]; rfl
  rw [e]
  refine has_w l a b k hl _ _ ⟨fun _=>⟨l[k],List.getElem?_eq_getElem hlt,fun hq=>?_,fun hq=>?_⟩,fun h=>absurd (by omega) h⟩
  · rw [hq]; exact ⟨rfl,rfl⟩
  · rw [hq,Bool.false_or]; exact nx
theorem has_l (l:List OP) (a b:Int) (hl:l.length≤1000000):Rq 0 30 0 (hsS l a b 0) (if has l a b=true then .ret else .exit 0) { env:=slots 19 [(4,Am.bool (has l a b))],H:=[.box [int a,int b]] }:=has_loop l a b hl _ 0 rfl (Nat.zero_le _)
theorem has_f (l:List OP) (a b:Int) (hl:l.length≤1000000) (h:(((has l a b=true)→True)∧((¬has l a b=true)→(false)=(has l a b)))):Cq 30 [opl l,dot (a,b)] (Am.bool (has l a b)):=by
 by_cases c1:(has l a b=true)
 · have h:=h.1 c1
   have _:=h
   exact callC_of [kl (rG [(2,1),(6,13)]) 1 (show Rq 0 30 0 (sM 19 [(0,.sl 17 false (ocs l)),(1,.agg [int a,int b]),(3,.ptr 0 0),(4,Am.bool false),(5,int 0)] [.box [int a,int b]]) AEx.ret (sM 19 [(4,Am.bool (has l a b))] [.box [int a,int b]]) from (by have h0:=(@has_l (l) (a) (b) (by omega)); simp only [if_pos c1] at h0; exact h0))]
 · have h:=h.2 c1
   exact callC_out (Sub.bool_eq h) [kl (rG [(2,1),(6,13)]) 1 (show Rq 0 30 0 (sM 19 [(0,.sl 17 false (ocs l)),(1,.agg [int a,int b]),(3,.ptr 0 0),(4,Am.bool false),(5,int 0)] [.box [int a,int b]]) (AEx.exit 0) (sM 19 [(4,Am.bool (has l a b))] [.box [int a,int b]]) from (by have h0:=(@has_l (l) (a) (b) (by omega)); simp only [if_neg c1] at h0; exact h0))]
theorem has_c (l:List OP) (a b:Int) (hl:l.length≤1000000):Cq 30 [opl l,dot (a,b)] (Am.bool (has l a b)):=has_f l a b hl ⟨fun _=>trivial,fun h=>(by simpa using h)⟩
def fewN (o:OP):Bool:=decide ((o.cx.length:Int)≤12) && decide ((o.vl.size:Int)≤300) && decide ((o.ky.size:Int)≤300) && decide ((o.pn.size:Int)≤300)
theorem few_loop (l:List OP) (m:Int) (hl:l.length≤9223372036854775807):∀ n k,l.length - k=n→k≤l.length→Rq 0 12 0 (fwS l m k) (if (l.drop k).all fewN=true then .exit 0 else .ret) { env:=slots 44 (if (l.drop k).all fewN=true then [(0,opl l),(1,int m),(4,Am.bool false)] else [(4,Am.bool false)]),H:=[] }:=by
 intro n
 induction n with
 | zero =>
  intro k hn hk
  rw [List.drop_eq_nil_of_le (by omega)]
  exact few_e l m k hl (by omega) trivial
 | succ n ih =>
  intro k hn hk
  have hlt:k<l.length:=by omega
  have hx:l[k]? = some l[k]:=List.getElem?_eq_getElem hlt
  have nx:=ih (k+1) (by omega) (by omega)
  rw [List.drop_eq_getElem_cons hlt,List.all_cons]
  by_cases h1:(l[k].cx.length:Int)≤12
  · by_cases h2:(l[k].vl.size:Int)≤300
    · by_cases h3:(l[k].ky.size:Int)≤300
      · by_cases h4:(l[k].pn.size:Int)≤300
        · have e:fewN l[k]=true:=by simp [fewN,h1,h2,h3,h4]
          rw [e,Bool.true_and]
          exact few_n l m _ k hl (by omega) hx h1 h2 h3 h4 _ _ nx
        · have e:fewN l[k]=false:=by simp [fewN,h4]
          rw [e,Bool.false_and]
          exact few_d l m _ k hl (by omega) hx h1 h2 h3 (by omega) _ _ ⟨rfl,rfl⟩
      · have e:fewN l[k]=false:=by simp [fewN,h3]
        rw [e,Bool.false_and]
        exact few_c l m _ k hl (by omega) hx h1 h2 (by omega) _ _ ⟨rfl,rfl⟩
    · have e:fewN l[k]=false:=by simp [fewN,h2]
      rw [e,Bool.false_and]
      exact few_b l m _ k hl (by omega) hx h1 (by omega) _ _ ⟨rfl,rfl⟩
  · have e:fewN l[k]=false:=by simp [fewN,h1]
    rw [e,Bool.false_and]
    exact few_a l m _ k hl (by omega) hx (by omega) _ _ ⟨rfl,rfl⟩
theorem few_t (l:List OP) (m:Int) (hl:l.length≤9223372036854775807) (b:Bool) (hb:decide ((l.length:Int)≤m)=b) (hL:Rq 0 12 0 (fwS l m 0) (.exit 0) { env:=slots 44 [(0,opl l),(1,int m),(4,Am.bool false)],H:=[] }) (h:(decide ((l.length:Int)≤m))=(b)):Cq 12 [opl l,int m] (Am.bool b):=by
 exact callC_out (Sub.bool_eq h) [kl (rG [(2,2),(6,38)]) 0 hL,kN 41 (ocs_length l)]
theorem few_u (l:List OP) (m:Int) (hL:Rq 0 12 0 (fwS l m 0) .ret { env:=slots 44 [(4,Am.bool false)],H:=[] }) (h:True):Cq 12 [opl l,int m] (Am.bool false):=by
 have _:=h
 exact callC_of [kl (rG [(2,2),(6,38)]) 0 hL]
theorem few_c' (l:List OP) (m:Int) (hl:l.length≤9223372036854775807):Cq 12 [opl l,int m] (Am.bool (l.all fewN && decide ((l.length:Int)≤m))):=by
 have h:=few_loop l m hl _ 0 rfl (Nat.zero_le _)
 rw [List.drop_zero] at h
 cases e:l.all fewN with
 | true =>
  rw [e] at h
  rw [Bool.true_and]
  exact few_t l m hl _ rfl h rfl
 | false =>
  rw [e] at h
  exact few_u l m h trivial
theorem same_loop (a b:List OP) (ha:a.length≤1000000) (he:a.length=b.length) (hc:∀ x∈a,x.cx.length≤1000000000):∀ n k,a.length - k=n→k≤a.length→Rq 0 13 0 (smS a b k) (if a.drop k=b.drop k then .exit 0 else .ret) { env:=slots 27 [(4,Am.bool false)],H:=[] }:=by
 intro n
 induction n with
 | zero =>
  intro k hn hk
  rw [List.drop_eq_nil_of_le (by omega),List.drop_eq_nil_of_le (by omega),if_pos rfl]
  exact same_e a b k ha (by omega) _ _ ⟨rfl,rfl⟩
 | succ n ih =>
  intro k hn hk
  have hlt:k<a.length:=by omega
  have hlb:k<b.length:=by omega
  have nx:=ih (k+1) (by omega) (by omega)
  rw [List.drop_eq_getElem_cons hlt,List.drop_eq_getElem_cons hlb]
  refine same_w a b k ha _ _ (List.getElem?_eq_getElem hlt) (List.getElem?_eq_getElem hlb) (by omega) _ (Ops.rsame_c a[k] b[k] (hc _ (List.getElem_mem _))) _ _ ⟨fun h=>?_,fun h=>?_⟩
  · have h:=of_decide_eq_true h
    simp only [List.cons.injEq,h,true_and]
    exact nx
  · have h:=of_decide_eq_false h
    rw [if_neg (fun e=>h (List.cons.inj e).1)]
    exact ⟨rfl,rfl⟩
theorem same_t (a b:List OP) (hb:(a.length:Int)=(b.length:Int)) (hL:Rq 0 13 0 (smS a b 0) (.exit 0) { env:=slots 27 [(4,Am.bool false)],H:=[] }) (h:True):Cq 13 [opl a,opl b] (Am.bool true):=by
 have _:=h
 exact callC_of [kN 7 (ocs_length a),kN 9 (ocs_length b),kf (show ((a.length:Int) != (b.length:Int))=false from (congrArg Bool.not (qT (by omega)))),kl (rG [(2,2),(6,21)]) 0 hL]
theorem same_u (a b:List OP) (hb:(a.length:Int)=(b.length:Int)) (hL:Rq 0 13 0 (smS a b 0) .ret { env:=slots 27 [(4,Am.bool false)],H:=[] }) (h:True):Cq 13 [opl a,opl b] (Am.bool false):=by
 have _:=h
 exact callC_of [kN 7 (ocs_length a),kN 9 (ocs_length b),kf (show ((a.length:Int) != (b.length:Int))=false from (congrArg Bool.not (qT (by omega)))),kl (rG [(2,2),(6,21)]) 0 hL]
theorem same_v (a b:List OP) (hb:¬ (a.length:Int)=(b.length:Int)) (h:True):Cq 13 [opl a,opl b] (Am.bool false):=by
 have _:=h
 exact callC_of [kN 7 (ocs_length a),kN 9 (ocs_length b),kt (show ((a.length:Int) != (b.length:Int))=true from (congrArg Bool.not (qF (by omega))))]
theorem same_c (a b:List OP) (ha:a.length≤1000000) (hc:∀ x∈a,x.cx.length≤1000000000):Cq 13 [opl a,opl b] (Am.bool (decide (a=b))):=by
 by_cases he:a.length=b.length
 · have h:=same_loop a b ha he hc _ 0 rfl (Nat.zero_le _)
   rw [List.drop_zero,List.drop_zero] at h
   by_cases e:a=b
   · rw [if_pos e] at h; rw [decide_eq_true e]
     exact same_t a b (by omega) h trivial
   · rw [if_neg e] at h; rw [decide_eq_false e]
     exact same_u a b (by omega) h trivial
 · rw [decide_eq_false (fun e=>he (by rw [e]))]
   exact same_v a b (by omega) trivial
end Go.Mg


namespace Go.Mg
open Go Go.Am Go.Proofs Go.Seat Go.Vec Go.Cdc Go.Ops Go.ChangeMaps
theorem keyedI:Maps.Keyed P 3:=Maps.int_keyed Tryz.underlying3
theorem keyI {a:Int} (h:InR a):∃ l,keyOf P 3 (.int .i64 a)=some l:=⟨_,Maps.keyOf_int_mk Tryz.underlying3 h.wf⟩
theorem sn_keys {S:List D} (h:∀ d∈S,InR d.1):∀ e∈snE S,∃ l,keyOf P 3 e.1=some l:=fun e he=>by
 obtain ⟨x,hx,rfl⟩:=List.mem_map.1 he
 exact keyI (h x hx)
theorem sn_split (a:Int):∀ S:List D,(∃ us v bs,S=us++(a,v)::bs∧Vec.atV a S=v∧∀ v',snPut S (a,v')=us++(a,v')::bs)∨((∀ d∈S,d.1≠a)∧Vec.atV a S=0∧∀ v',snPut S (a,v')=S++[(a,v')])
 | []=>.inr ⟨fun _ h=>(by cases h),rfl,fun _=>rfl⟩
 | (b,w)::S=>by
  by_cases e:b=a
  · subst e
    exact .inl ⟨[],w,S,rfl,by simp [Vec.atV],fun v'=>by simp [snPut]⟩
  · rcases sn_split a S with ⟨us,v,bs,h1,h2,h3⟩ | ⟨h1,h2,h3⟩
    · exact .inl ⟨(b,w)::us,v,bs,by rw [h1]; rfl,by rw [Vec.atV,if_neg e,h2],fun v'=>by rw [snPut,if_neg e,h3]; rfl⟩
    · refine .inr ⟨fun d hd=>?_,by rw [Vec.atV,if_neg e,h2],fun v'=>by rw [snPut,if_neg e,h3]; rfl⟩
      rcases List.mem_cons.1 hd with rfl | hd
      · exact e
      · exact h1 d hd
theorem sn_get {S:List D} (h:∀ d∈S,InR d.1) {a:Int} (ha:InR a):∃ f,MapGet P 3 (snE S) (.int .i64 a) (int 0) (int (Vec.atV a S)) f:=by
 rcases sn_split a S with ⟨us,v,bs,h1,h2,_⟩ | ⟨h1,h2,_⟩
 · refine ⟨true,keyedI,keyI ha,sn_keys h,.inl ⟨rfl,?_⟩⟩
   rw [h2]
   exact List.mem_map.2 ⟨(a,v),by rw [h1]; simp,rfl⟩
 · refine ⟨false,keyedI,keyI ha,sn_keys h,.inr ⟨rfl,by rw [h2],fun e he hq=>?_⟩⟩
   obtain ⟨x,hx,rfl⟩:=List.mem_map.1 he
   simp only [Value.int.injEq,true_and] at hq
   exact h1 x hx hq
theorem sn_put {S:List D} (h:∀ d∈S,InR d.1) {a:Int} (ha:InR a) (v:Int):MapPut P 3 (snE S) (.int .i64 a) (int v) (snE (snPut S (a,v))):=by
 rcases sn_split a S with ⟨us,w,bs,h1,_,h3⟩ | ⟨h1,_,h3⟩
 · refine ⟨keyedI,keyI ha,sn_keys h,.inl ⟨snE us,snE bs,int w,?_,?_⟩⟩
   · rw [h1]; simp [snE]
   · rw [h3]; simp [snE]
 · refine ⟨keyedI,keyI ha,sn_keys h,.inr ⟨fun e he hq=>?_,by rw [h3]; simp [snE]⟩⟩
   obtain ⟨x,hx,rfl⟩:=List.mem_map.1 he
   simp only [Value.int.injEq,true_and] at hq
   exact h1 x hx hq
theorem snPut_rng {S:List D} (h:∀ d∈S,InR d.1) {a v:Int} (ha:InR a):∀ d∈snPut S (a,v),InR d.1:=fun d hd=>by
 have:d.1∈dvs (snPut S (a,v)):=List.mem_map_of_mem hd
 rcases snPut_keys.1 this with h1 | h1
 · obtain ⟨x,hx,e⟩:=List.mem_map.1 h1
   exact e ▸ h x hx
 · rw [h1]; exact ha
theorem cx_rng {o:OP} (hv:okO o=true):∀ d∈o.cx,InR d.1:=fun d hd=>by
 have:=isDot_iff.1 ((ok_cx hv).dots d hd)
 unfold InR; omega
theorem lt_loop (o:OP) (S:List D) (hv:okO o=true) (hS:∀ d∈S,InR d.1) (hl:o.cx.length≤1000000000):∀ n k,o.cx.length - k=n→k≤o.cx.length →
 Rq 4 71 0 (ltS o (rH o S) k) (if ((o.cx.drop k).all fun d=>decide (d.2≤Vec.atV d.1 S))=true then .exit 0 else .ret) (if ((o.cx.drop k).all fun d=>decide (d.2≤Vec.atV d.1 S))=true then { env:=slots 31 [(0,.yl 0),(1,.ptr 1 0)],H:=rH o S } else { env:=slots 31 [],H:=rD o S }):=by
 intro n
 induction n with
 | zero =>
  intro k hn hk
  rw [List.drop_eq_nil_of_le (by omega)]
  exact lt_e o S k hl (by omega) trivial
 | succ n ih =>
  intro k hn hk
  have hlt:k<o.cx.length:=by omega
  have hx:o.cx[k]? = some (o.cx[k].1,o.cx[k].2):=List.getElem?_eq_getElem hlt
  have nx:=ih (k+1) (by omega) (by omega)
  rw [List.drop_eq_getElem_cons hlt,List.all_cons]
  obtain ⟨f,hg⟩:=sn_get hS (cx_rng hv _ (List.getElem_mem hlt))
  by_cases hq:o.cx[k].2≤Vec.atV o.cx[k].1 S
  · rw [decide_eq_true hq,Bool.true_and]
    exact lt_t o S k _ _ hl (by omega) hx (rz_t o S _ _ _ f hg (by omega) trivial) _ _ nx
  · rw [decide_eq_false hq,Bool.false_and]
    exact lt_f o S k _ _ hl (by omega) hx (rz_f o S _ _ _ f hg (by omega) trivial) trivial
theorem lat_c (o:OP) (S:List D) (hv:okO o=true) (hS:∀ d∈S,InR d.1) (hl:o.cx.length≤1000000000):CallC P G 71 [.yl 0,.ptr 1 0] (rH o S) (.ret (.tup [])) (if met S o=true then rH o S else rD o S):=by
 have h:=lt_loop o S hv hS hl _ 0 rfl (Nat.zero_le _)
 rw [List.drop_zero] at h
 unfold met lat
 rw [List.all_append]
 have hd:=isDot_iff.1 (valid_of hv).1
 simp only at hd
 cases e:o.cx.all fun d=>decide (d.2≤Vec.atV d.1 S) with
 | false =>
  rw [e] at h
  rw [Bool.false_and]
  exact la_r o S hl h trivial
 | true =>
  rw [e] at h
  rw [Bool.true_and]
  by_cases hs:1<o.sq
  · rw [if_pos hs]
    obtain ⟨f,hg⟩:=sn_get hS (a:=o.dv) (by unfold InR; omega)
    simp only [List.all_cons,List.all_nil,Bool.and_true]
    by_cases hq:o.sq - 1≤Vec.atV o.dv S
    · rw [decide_eq_true hq]
      exact la_t o S hl hs hd.2.2.2 (ry_t o S _ _ _ f hg (by omega) trivial) h trivial
    · rw [decide_eq_false hq]
      exact la_f o S hl hs hd.2.2.2 (ry_f o S _ _ _ f hg (by omega) trivial) h trivial
  · rw [if_neg hs]
    exact la_1 o S hl hs h trivial
def zc17:List AV:=[int 0,int 0,int 0,nilS,int 0,str (ByteArray.mk #[]),int 0,int 0,int 0,int 0,int 0,int 0,int 0,str (ByteArray.mk #[]),str (ByteArray.mk #[]),int 0,Am.bool false]
def dlY (xs:List (List AV)) (n i:Nat):List (List AV):=xs.take i++((xs.drop (i+1)).take (n - (i+1))++(zc17::xs.drop n))
theorem dlY_ids {xs:List (List AV)} (hd:∀ x∈xs,AV.idsInL [] x=true) (n i:Nat):∀ x∈dlY xs n i,AV.idsInL [] x=true:=fun x hx=>by
 unfold dlY at hx
 rcases List.mem_append.1 hx with hx | hx
 · exact hd x (List.mem_of_mem_take hx)
 · rcases List.mem_append.1 hx with hx | hx
   · exact hd x (List.mem_of_mem_drop (List.mem_of_mem_take hx))
   · rcases List.mem_cons.1 hx with rfl | hx
     · rfl
     · exact hd x (List.mem_of_mem_drop hx)
theorem dlY_len {xs:List (List AV)} {n i:Nat} (hn:n≤xs.length) (hi:i<n):(dlY xs n i).length=xs.length:=by
 simp [dlY]; omega
theorem dlY_take {a b:List OP} {o:OP} {xs:List (List AV)} (h:xs.take (a++o::b).length=ocs (a++o::b)) (hn:(a++o::b).length≤xs.length):(dlY xs (a++o::b).length a.length).take (a++b).length=ocs (a++b):=by
 have h1:xs=ocs (a++o::b)++xs.drop (a++o::b).length:=by rw [← h,List.take_append_drop]
 have e1:xs.take a.length=ocs a:=by
  rw [h1,List.take_append_of_le_length (by rw [ocs_length]; simp)]
  simp [ocs]
 have e2:(xs.drop (a.length+1)).take ((a++o::b).length - (a.length+1))=ocs b:=by
  have:(a++o::b).length - (a.length+1)=b.length:=by simp; omega
  rw [this,h1,List.drop_append_of_le_length (by rw [ocs_length]; simp)]
  have e3:(ocs (a++o::b)).drop (a.length+1)=ocs b:=by
   have:a++o::b=(a++[o])++b:=by simp
   rw [this,← ocs_append,List.drop_left' (by simp [ocs_length])]
  rw [e3,List.take_append_of_le_length (by rw [ocs_length]; exact Nat.le_refl _),List.take_of_length_le (by rw [ocs_length]; exact Nat.le_refl _)]
 unfold dlY
 rw [e1,e2,← List.append_assoc,ocs_append,List.take_append_of_le_length (by rw [ocs_length]; exact Nat.le_refl _),List.take_of_length_le (by rw [ocs_length]; exact Nat.le_refl _)]
theorem del_c (xs:List (List AV)) (g n i:Nat) (hw:xs.length≤1000000) (hn:n≤xs.length) (hi:i<n) (hd:∀ x∈xs,AV.idsInL [] x=true):CallC P G 40 [.own 0 g 0 n,int i,int (i+1:Nat)] [.arr g 17 false xs] (.ret (.own 0 (g+1) 0 (n - 1))) [.arr (g+1) 17 false (dlY xs n i)]:=by
 have e0:(List.take (n - (i+1)) (List.drop (i+1) xs)).length=n - (i+1):=by rw [List.length_take,List.length_drop]; omega
 have e1:i+(n - (i+1))=n - 1:=by omega
 have e2:n - (n - 1)=1:=by omega
 have e3:List.take (n - 1) (List.take i xs++(List.take (n - (i+1)) (List.drop (i+1) xs)++List.drop (n - 1) xs))=List.take i xs++List.take (n - (i+1)) (List.drop (i+1) xs):=by
  rw [← List.append_assoc,List.take_append_of_le_length (by rw [List.length_append,e0,List.length_take]; omega),List.take_of_length_le (by rw [List.length_append,e0,List.length_take]; omega)]
 have e4:List.drop (n - 1+1) (List.take i xs++(List.take (n - (i+1)) (List.drop (i+1) xs)++List.drop (n - 1) xs))=List.drop n xs:=by
  have hl:(List.take i xs++List.take (n - (i+1)) (List.drop (i+1) xs)).length=n - 1:=by rw [List.length_append,e0,List.length_take]; omega
  rw [← List.append_assoc,List.drop_append,List.drop_drop,hl,List.drop_eq_nil_of_le (by rw [hl]; omega),show n - 1+(n - 1+1 - (n - 1))=n by omega]
  rfl
 refine del_w xs g n i hw hn hi hd _ _ ⟨?_,?_,⟨?_,?_,?_⟩,?_,?_⟩<;>simp only [Int.toNat_natCast,Int.toNat_zero,Nat.zero_add,Nat.sub_zero,e0,e1]
 · omega
 · omega
 · omega
 · rw [← List.append_assoc,List.length_append,List.length_append,e0,List.length_take,List.length_drop]; omega
 · rw [e2,e3,e4,dlY,List.append_assoc]; rfl
theorem get_of {r:List OP} {xs:List (List AV)} (h:xs.take r.length=ocs r) {i:Nat} (hi:i<r.length):xs[0+i]? = some (opc r[i]):=by
 have:(xs.take r.length)[i]? = (ocs r)[i]? := by rw [h]
 rw [List.getElem?_take,if_pos hi] at this
 rw [Nat.zero_add,this]
 simp [ocs,hi]
structure RS (r:List OP) (xs:List (List AV)) (S:List D):Prop where
 rd:xs.take r.length=ocs r
 len:r.length≤xs.length
 most:xs.length≤1000000
 ids:∀ x∈xs,AV.idsInL [] x=true
 valid:Gvs r
 rng:∀ d∈S,InR d.1
theorem RS.next {a b:List OP} {o:OP} {xs:List (List AV)} {S:List D} (h:RS (a++o::b) xs S):RS (a++b) (dlY xs (a++o::b).length a.length) (sPut S o) where
 rd:=dlY_take h.rd h.len
 len:=by rw [dlY_len h.len (by simp)]; have:=h.len; simp at this ⊢; omega
 most:=by rw [dlY_len h.len (by simp)]; exact h.most
 ids:=dlY_ids h.ids _ _
 valid:=fun x hx=>h.valid x (by
  rcases List.mem_append.1 hx with hx | hx
  · exact List.mem_append_left _ hx
  · exact List.mem_append_right _ (List.mem_cons_of_mem _ hx))
 rng:=snPut_rng h.rng (h.valid o (by simp)).1.rng.1
theorem in0_n {r:List OP} {xs:List (List AV)} {S:List D} (h:RS r xs S) (g:Nat) {ex:AEx} {s':St} (m:Nat) (hm:m≤r.length) (hno:∀ i x,i<m→r[i]? = some x→met S x=false) (hend:Rq 0 16 1 (rC0 xs g r.length S m) ex s'):∀ n i,m - i=n→i≤m→Rq 0 16 1 (rC0 xs g r.length S i) ex s':=by
 intro n
 induction n with
 | zero=>intro i hn hi; rwa [show i=m by omega]
 | succ n ih =>
  intro i hn hi
  have hlt:i<r.length:=by omega
  have hv:=h.valid r[i] (List.getElem_mem _)
  have hl:=lat_c r[i] S hv.2 h.rng hv.1.okn.cx
  rw [hno i r[i] (by omega) (List.getElem?_eq_getElem hlt)] at hl
  exact rn0_w xs g r.length i S r[i] (by have:=h.len; have:=h.most; omega) h.ids (by omega) (get_of h.rd hlt) hl _ _ (ih (i+1) (by omega) (by omega))
theorem in1_n {r:List OP} {xs:List (List AV)} {S:List D} (h:RS r xs S) (g g2:Nat) (v:List OP) (hv1:v.length≤1000000) {ex:AEx} {s':St} (m:Nat) (hm:m≤r.length) (hno:∀ i x,i<m→r[i]? = some x→met S x=false) (hend:Rq 0 16 1 (rC1 xs g r.length S g2 v m) ex s'):∀ n i,m - i=n→i≤m→Rq 0 16 1 (rC1 xs g r.length S g2 v i) ex s':=by
 intro n
 induction n with
 | zero=>intro i hn hi; rwa [show i=m by omega]
 | succ n ih =>
  intro i hn hi
  have hlt:i<r.length:=by omega
  have hv:=h.valid r[i] (List.getElem_mem _)
  have hl:=lat_c r[i] S hv.2 h.rng hv.1.okn.cx
  rw [hno i r[i] (by omega) (List.getElem?_eq_getElem hlt)] at hl
  exact rn1_w xs g r.length i S g2 v hv1 r[i] (by have:=h.len; have:=h.most; omega) h.ids (by omega) (get_of h.rd hlt) hl _ _ (ih (i+1) (by omega) (by omega))
theorem get_a {a b:List OP} {o:OP}:(a++o::b)[a.length]'(by simp)=o:=by simp
theorem no_of {p:OP→Bool} {a b:List OP} {o:OP} (h:∀ x∈a,p x=false):∀ i x,i<a.length→(a++o::b)[i]? = some x→p x=false:=fun i x hi hx=>by
 rw [List.getElem?_append_left hi] at hx
 exact h x (List.mem_of_getElem? hx)
theorem in0_m {a b:List OP} {o:OP} {xs:List (List AV)} {S:List D} (h:RS (a++o::b) xs S) (g:Nat) (hno:∀ x∈a,met S x=false) (hm:met S o=true) :
 Rq 0 16 1 (rC0 xs g (a++o::b).length S 0) (.exit 1) (rS1 (dlY xs (a++o::b).length a.length) (g+1) (a++b).length (sPut S o) 0 [o]):=by
 have hv:=h.valid o (by simp)
 have hl:=lat_c o S hv.2 h.rng hv.1.okn.cx
 rw [hm] at hl
 have hD:=del_c xs g (a++o::b).length a.length h.most h.len (by simp) h.ids
 rw [show (a++o::b).length - 1=(a++b).length by simp] at hD
 have hg:=get_of h.rd (i:=a.length) (by simp)
 rw [get_a] at hg
 exact in0_n h g a.length (by simp) (no_of hno) (ry0_w xs _ g _ _ a.length S _ o (by have:=h.len; have:=h.most; omega) (dlY_ids h.ids _ _) h.ids (by simp; omega) hg hl (sn_put h.rng hv.1.rng.1 _) hD trivial) _ 0 rfl (Nat.zero_le _)
theorem in1_m {a b:List OP} {o:OP} {xs:List (List AV)} {S:List D} (h:RS (a++o::b) xs S) (g g2:Nat) (v:List OP) (hv1:v.length≤1000000) (hno:∀ x∈a,met S x=false) (hm:met S o=true) :
 Rq 0 16 1 (rC1 xs g (a++o::b).length S g2 v 0) (.exit 1) (rS1 (dlY xs (a++o::b).length a.length) (g+1) (a++b).length (sPut S o) (g2+1) (v++[o])):=by
 have hv:=h.valid o (by simp)
 have hl:=lat_c o S hv.2 h.rng hv.1.okn.cx
 rw [hm] at hl
 have hD:=del_c xs g (a++o::b).length a.length h.most h.len (by simp) h.ids
 rw [show (a++o::b).length - 1=(a++b).length by simp] at hD
 have hg:=get_of h.rd (i:=a.length) (by simp)
 rw [get_a] at hg
 exact in1_n h g g2 v hv1 a.length (by simp) (no_of hno) (ry1_w xs _ g _ _ a.length S _ g2 v hv1 o (by have:=h.len; have:=h.most; omega) (dlY_ids h.ids _ _) h.ids (by simp; omega) hg hl (sn_put h.rng hv.1.rng.1 _) hD ⟨.of_eq (by show AV.own _ _ _ _=AV.own _ _ _ _; rw [List.length_append]; rfl),by rw [ocs_append]; rfl⟩) _ 0 rfl (Nat.zero_le _)
theorem rdy_loop1:∀ (N:Nat) {r:List OP} {xs:List (List AV)} {S:List D} (_:RS r xs S) (g g2:Nat) (v:List OP),r.length≤N→v.length+N≤1000000 →
 ∃ xs' g3 S' g4,(∀ x∈xs',AV.idsInL [] x=true)∧Rq 0 16 0 (rS1 xs g r.length S g2 v) .ret (rX1 xs' g3 S' g4 (v++rdyG met sPut N S r)):=by
 intro N
 induction N with
 | zero =>
  intro r xs S h g g2 v hr hv
  obtain rfl:r=[]:=List.eq_nil_of_length_eq_zero (by omega)
  refine ⟨xs,g,S,g2,h.ids,?_⟩
  show RunL _ _ _ _ _ _ _ (rX1 xs g S g2 (v++[]))
  rw [List.append_nil]
  exact rx1_w xs g 0 g2 S v (by omega) h.ids (re1_w xs g 0 0 S g2 v (by omega) (by omega) h.ids (by omega) _ _ ⟨rfl,rfl⟩) trivial
 | succ N ih =>
  intro r xs S h g g2 v hr hv
  have hw:r.length≤1000000:=by have:=h.len; have:=h.most; omega
  unfold rdyG
  cases e:pick (met S) r with
  | none =>
   have hno:=pick_none e
   refine ⟨xs,g,S,g2,h.ids,?_⟩
   show RunL _ _ _ _ _ _ _ (rX1 xs g S g2 (v++[]))
   rw [List.append_nil]
   exact rx1_w xs g _ g2 S v hw h.ids (in1_n h g g2 v (by omega) r.length (Nat.le_refl _) (fun i x hi hx=>hno x (List.mem_of_getElem? hx)) (re1_w xs g _ _ S g2 v (by omega) hw h.ids (by omega) _ _ ⟨rfl,rfl⟩) _ 0 rfl (Nat.zero_le _)) trivial
  | some q =>
   obtain ⟨o,r'⟩:=q
   obtain ⟨a,b,rfl,rfl,h3,h4⟩:=pick_some e
   obtain ⟨xs',g3,S',g4,k1,k2⟩:=ih h.next (g+1) (g2+1) (v++[o]) (by simp at hr ⊢; omega) (by simp; omega)
   refine ⟨xs',g3,S',g4,k1,?_⟩
   simp only [List.append_assoc,List.cons_append,List.nil_append] at k2
   exact rm1_w xs _ g _ _ g2 S _ v o hw h.ids (dlY_ids h.ids _ _) (in1_m h g g2 v (by omega) h3 h4) _ _ k2
theorem rdy_loop0 (N:Nat) {r:List OP} {xs:List (List AV)} {S:List D} (h:RS r xs S) (g:Nat) (hr:r.length≤N) (hN:N≤900000) :
 (rdyG met sPut N S r=[]∧Rq 0 16 0 (rS0 xs g r.length S) .ret (rX0 xs g S)) ∨
 ∃ xs' g3 S' g4,(∀ x∈xs',AV.idsInL [] x=true)∧Rq 0 16 0 (rS0 xs g r.length S) .ret (rX1 xs' g3 S' g4 (rdyG met sPut N S r))∧rdyG met sPut N S r≠[]:=by
 have hw:r.length≤1000000:=by have:=h.len; have:=h.most; omega
 cases N with
 | zero =>
  obtain rfl:r=[]:=List.eq_nil_of_length_eq_zero (by omega)
  exact .inl ⟨rfl,rx0_w xs g 0 S (by omega) h.ids (re0_w xs g 0 0 S (by omega) h.ids (by omega) _ _ ⟨rfl,rfl⟩) trivial⟩
 | succ N =>
  unfold rdyG
  cases e:pick (met S) r with
  | none =>
   have hno:=pick_none e
   exact .inl ⟨rfl,rx0_w xs g _ S hw h.ids (in0_n h g r.length (Nat.le_refl _) (fun i x hi hx=>hno x (List.mem_of_getElem? hx)) (re0_w xs g _ _ S hw h.ids (by omega) _ _ ⟨rfl,rfl⟩) _ 0 rfl (Nat.zero_le _)) trivial⟩
  | some q =>
   obtain ⟨o,r'⟩:=q
   obtain ⟨a,b,rfl,rfl,h3,h4⟩:=pick_some e
   obtain ⟨xs',g3,S',g4,k1,k2⟩:=rdy_loop1 N h.next (g+1) 0 [o] (by simp at hr ⊢; omega) (by simp; omega)
   exact .inr ⟨xs',g3,S',g4,k1,rm0_w xs _ g _ _ S _ o hw h.ids (dlY_ids h.ids _ _) (in0_m h g h3 h4) _ _ k2,by simp⟩
end Go.Mg


namespace Go.Mg
open Go Go.Am Go.Proofs Go.Seat Go.Vec Go.Cdc Go.Ops
def cop (dv sq tm n:Int) (nm:ByteArray):List AV:=[int dv,int sq,int tm,vec [],int 3,str nm,int 5,int 0,int 0,int 0,int 0,int 0,int 0,str .empty,str .empty,int n,Am.bool false]
def copA (dv sq tm n:Int) (nm:ByteArray):AV:=.agg (cop dv sq tm n nm)
abbrev unF:AV:=.fn (.func 51) [] [.ptr 0 0]
def iyS (H:List AObj):St:={ env:=slots 19 [(0,vec []),(1,unF),(4,int 0),(7,int 0),(8,int 0)],H:=H }
def zE:AV:=.lit (.agg #[.nilFunc])
theorem eg5:MapGet P 3 effE (.int .i64 5) zE (.agg [fnV 262]) true :=
 ⟨keyedI,keyI (by unfold InR; omega),fun e he=>by
  simp only [effE,List.mem_cons,List.not_mem_nil,or_false] at he
  rcases he with rfl | rfl | rfl | rfl | rfl | rfl | rfl | rfl<;>exact keyI (by unfold InR; omega),.inl ⟨rfl,by simp [effE]⟩⟩
theorem iy0_l  (h:True):Rq 1 61 0 (iyS [AObj.box [nilS,nilS]]) (AEx.exit 0) (sM 19 [] [.box [nilS,nilS]]):=by
 have _:=h
 exact loop_exit [kY] (others 19 []) 1
theorem iy0_w (hL:Rq 1 61 0 (iyS [.box [nilS,nilS]]) (.exit 0) { env:=slots 19 [],H:=[.box [nilS,nilS]] }) (h:True):CallC P G 61 [vec [],unF] [AObj.box [nilS,nilS]] (AOut.ret (int (-1))) [AObj.box [nilS,nilS]]:=by
 have _:=h
 exact callC_of [kl (rG [(2,2),(5,2),(9,10)]) 1 hL]
theorem cy0_w (hI:CallC P G 61 [vec [],unF] [.box [nilS,nilS]] (.ret (int (-1))) [.box [nilS,nilS]]) (h:True):CallC P G 52 [vec [],unF] [AObj.box [nilS,nilS]] (AOut.ret (Am.bool false)) [AObj.box [nilS,nilS]]:=by
 have _:=h
 exact callC_of [kc [0] hI]
theorem iy1_l (v:List D) (nm:ByteArray) (d s n:Int) (h:True):Rq 1 61 0 (iyS [AObj.box [vec v,fs1 nm d s n]]) (AEx.exit 0) (sM 19 [] [.box [vec v,fs1 nm d s n]]):=by
 have _:=h
 exact loop_exit [kY] (others 19 []) 1
theorem iy1_w (v:List D) (nm:ByteArray) (d s n:Int) (hL:Rq 1 61 0 (iyS [.box [vec v,fs1 nm d s n]]) (.exit 0) { env:=slots 19 [],H:=[.box [vec v,fs1 nm d s n]] }) (h:True):CallC P G 61 [vec [],unF] [AObj.box [vec v,fs1 nm d s n]] (AOut.ret (int (-1))) [AObj.box [vec v,fs1 nm d s n]]:=by
 have _:=h
 exact callC_of [kl (rG [(2,2),(5,2),(9,10)]) 1 hL]
theorem cy1_w (v:List D) (nm:ByteArray) (d s n:Int) (hI:CallC P G 61 [vec [],unF] [.box [vec v,fs1 nm d s n]] (.ret (int (-1))) [.box [vec v,fs1 nm d s n]]) (h:True):CallC P G 52 [vec [],unF] [AObj.box [vec v,fs1 nm d s n]] (AOut.ret (Am.bool false)) [AObj.box [vec v,fs1 nm d s n]]:=by
 have _:=h
 exact callC_of [kc [0] hI]
theorem ap0_l (dv tm n:Int) (nm:ByteArray) (h:True):Rq 0 27 0 (sM 109 [(2,.ptr 0 0),(3,.ptr 1 0),(4,.ptr 2 0),(5,int 0),(64,nilS),(65,int 0),(66,int 0)] [.box [nilS,nilS],.box (cop dv 1 tm n nm),.box [vec [(dv,1)],nilS]]) (AEx.exit 0) (sM 109 [(2,.ptr 0 0),(3,.ptr 1 0),(4,.ptr 2 0),(5,int 0)] [.box [nilS,nilS],.box (cop dv 1 tm n nm),.box [vec [(dv,1)],nilS]]):=by
 have _:=h
 exact loop_exit [kY] (others 109 [2,3,4,5]) 3
theorem ap0_w (dv tm n:Int) (nm:ByteArray) (hK:Cq 50 [d0] (int 0)) (hO:Cq 31 [copA dv 1 tm n nm] (int 0)) (hV:Cq 28 [nilS,dot (dv,1)] (Am.bool false)) (hA:Cq 32 [nilS,int dv] (int 0)) (hF:CallC P G 52 [vec [],unF] [.box [nilS,nilS]] (.ret (Am.bool false)) [.box [nilS,nilS]]) (hW:Cq 29 [nilS,dot (dv,1)] (.tup [vec [(dv,1)],int 0])) (hB:Cq 54 [nilS,pt3 nm,apF] (.tup [int 0,Am.bool false])) (hI:CallC P G 57 [nilS,int 0,.sl 7 true [fl nm nilS]] [] (.ret (.own 0 0 0 1)) [.arr 0 7 false [fl nm nilS]]) (hE:CallC P G 262 [.apt 0 0 0 0,copA dv 1 tm n nm] [.arr 0 7 false [fl nm nilS]] (.ret (int 0)) [.arr 0 7 false [fl nm (tl1 dv 1 n)]]) (hL:Rq 0 27 0 { env:=slots 109 [(2,.ptr 0 0),(3,.ptr 1 0),(4,.ptr 2 0),(5,int 0),(64,nilS),(65,int 0),(66,int 0)],H:=[.box [nilS,nilS],.box (cop dv 1 tm n nm),.box [vec [(dv,1)],nilS]] } (.exit 0) { env:=slots 109 [(2,.ptr 0 0),(3,.ptr 1 0),(4,.ptr 2 0),(5,int 0)],H:=[.box [nilS,nilS],.box (cop dv 1 tm n nm),.box [vec [(dv,1)],nilS]] }) (hM:MapGet P 3 effE (.int .i64 5) zE (.agg [fnV 262]) true) (out:AOut) (H':List AObj) (h:(AOut.ret (AV.tup [AV.agg [AV.sl 2 false [[int dv,int 1]],AV.own 3 0 0 1],int 0])=out)∧([AObj.box [nilS,nilS],AObj.box [int dv,int 1,int tm,AV.sl 2 false [],int 3,str nm,int 5,int 0,int 0,int 0,int 0,int 0,int 0,str ByteArray.empty,str ByteArray.empty,int n,Am.bool false],AObj.box [AV.sl 2 false [[int dv,int 1]],AV.own 3 0 0 1],AObj.arr 0 7 false [[int 3,str nm,nilS,nilS,AV.sl 3 false [[int dv,int 1,int n]],nilS,nilS]]]=H')):CallC P G 27 [d0,copA dv 1 tm n nm] [] out H':=by
 have hz9:∀ (x:List AV),x∈[fl nm nilS]→AV.idsInL [] x=true:=(by exact (Am.allm_cons rfl Am.allm_nil))
 obtain ⟨e1,eH⟩:=h
 exact CallC.heap (e1 ▸ ((show CallC P G 27 [d0,copA dv 1 tm n nm] [] (AOut.ret (AV.tup [AV.agg [AV.sl 2 false [[int dv,int 1]],AV.own 3 0 0 1],int 0])) [AObj.box [nilS,nilS],AObj.box [int dv,int 1,int tm,AV.sl 2 false [],int 3,str nm,int 5,int 0,int 0,int 0,int 0,int 0,int 0,str ByteArray.empty,str ByteArray.empty,int n,Am.bool false],AObj.box [AV.sl 2 false [[int dv,int 1]],AV.own 3 0 0 1],AObj.arr 0 7 false [[int 3,str nm,nilS,nilS,AV.sl 3 false [[int dv,int 1,int n]],nilS,nilS]]] from callC_of [kc [] hK,kY,kc [] hO,kY,kc [] hV,kY,kc [] hA,kY,kc [0] hF,kY,kc [] hW,kY,kl (rG [(0,2),(6,58),(67,42)]) 3 hL,kc [] hB,kO,kc [] hI,ko (Orc.mget (AV.agg [fnV 262]) true),kp hz9,kp hM,kq 0,kR (0:Int) (1:Int),kc [3] hE,kp (show ∀ (x:List AV),x∈[fl nm (tl1 dv 1 n)]→AV.idsInL [] x=true from (by exact (Am.allm_cons rfl Am.allm_nil))),kp hz9]))) eH
end Go.Mg


namespace Go.Mg
open Go Go.Am Go.Proofs Go.Seat Go.Vec Go.Cdc Go.Ops
def a1H (v v':List D) (dv s0 n0 sq tm n:Int) (nm:ByteArray):List AObj:=[.box [vec v,fs1 nm dv s0 n0],.box (cop dv sq tm n nm),.box [vec v',nilS]]
def a1S (v v':List D) (dv s0 n0 sq tm n:Int) (nm:ByteArray):St:={ env:=slots 109 [(2,.ptr 0 0),(3,.ptr 1 0),(4,.ptr 2 0),(5,int 0),(64,fs1 nm dv s0 n0),(65,int 1),(66,int 0)],H:=a1H v v' dv s0 n0 sq tm n nm }
theorem ap1_r (v v':List D) (dv s0 n0 sq tm n:Int) (nm:ByteArray) (hC:Cq 53 [.agg (fl nm (tl1 dv s0 n0))] (.agg (fl nm (tl1 dv s0 n0)))) (ex:AEx) (s':St) (h:Rq 0 27 0 (sM 109 [(2,.ptr 0 0),(3,.ptr 1 0),(4,.ptr 2 0),(5,int 0),(64,.sl 7 false [[int 3,str nm,nilS,nilS,.sl 3 false [[int dv,int s0,int n0]],nilS,nilS]]),(65,int 1),(66,int 1)] [.box [vec v,.sl 7 false [[int 3,str nm,nilS,nilS,.sl 3 false [[int dv,int s0,int n0]],nilS,nilS]]],.box [int dv,int sq,int tm,.sl 2 false [],int 3,str nm,int 5,int 0,int 0,int 0,int 0,int 0,int 0,str ByteArray.empty,str ByteArray.empty,int n,Am.bool false],.box [.sl 2 false (encs v'),.own 4 0 0 1],.box [int 3,str nm,nilS,nilS,.sl 3 false [[int dv,int s0,int n0]],nilS,nilS],.arr 0 7 false [[int 3,str nm,nilS,nilS,.sl 3 false [[int dv,int s0,int n0]],nilS,nilS]]]) ex s'):Rq 0 27 0 (a1S v v' dv s0 n0 sq tm n nm) ex s':=by
 exact loop_next [kO,ko (Orc.elem [int 3,str nm,nilS,nilS,AV.sl 3 false [[int dv,int s0,int n0]],nilS,nilS]),kp (show (0:Int)≤(0:Int)∧[fl nm (tl1 dv s0 n0)][Int.toNat 0]? = some [int 3,str nm,nilS,nilS,AV.sl 3 false [[int dv,int s0,int n0]],nilS,nilS] from (⟨by decide,rfl⟩)),kc [] hC,kne [int 3,str nm,nilS,nilS,AV.sl 3 false [[int dv,int s0,int n0]],nilS,nilS],kBd 144] (others 109 [2,3,4,5,64,65,66]) 5 h
def b1H (v v':List D) (dv s0 n0 sq tm n:Int) (nm:ByteArray):List AObj:=[.box [vec v,fs1 nm dv s0 n0],.box (cop dv sq tm n nm),.box [vec v',.own 4 0 0 1],.gone,.arr 0 7 false [fl nm (tl1 dv s0 n0)]]
def b1S (v v':List D) (dv s0 n0 sq tm n:Int) (nm:ByteArray):St:={ env:=slots 109 [(2,.ptr 0 0),(3,.ptr 1 0),(4,.ptr 2 0),(5,int 0),(64,fs1 nm dv s0 n0),(65,int 1),(66,int 1)],H:=b1H v v' dv s0 n0 sq tm n nm }
def b1X (v v':List D) (dv s0 n0 sq tm n:Int) (nm:ByteArray):St:={ env:=slots 109 [(2,.ptr 0 0),(3,.ptr 1 0),(4,.ptr 2 0),(5,int 0)],H:=b1H v v' dv s0 n0 sq tm n nm }
theorem ap1_e (v v':List D) (dv s0 n0 sq tm n:Int) (nm:ByteArray) (h:True):Rq 0 27 0 (b1S v v' dv s0 n0 sq tm n nm) (AEx.exit 0) (b1X v v' dv s0 n0 sq tm n nm):=by
 have _:=h
 exact loop_exit [kY] (others 109 [2,3,4,5]) 5
theorem ap1_w (v v':List D) (dv s0 n0 n1 sq tm n:Int) (nm:ByteArray) (hs:1≤sq) (hs2:sq≤1048576) (hK:Cq 50 [d1 v nm dv s0 n0] (int 0)) (hO:Cq 31 [copA dv sq tm n nm] (int 0)) (hV:Cq 28 [vec v,dot (dv,sq)] (Am.bool false)) (hA:Cq 32 [vec v,int dv] (int (sq - 1))) (hF:CallC P G 52 [vec [],unF] [.box [vec v,fs1 nm dv s0 n0]] (.ret (Am.bool false)) [.box [vec v,fs1 nm dv s0 n0]]) (hW:Cq 29 [vec v,dot (dv,sq)] (.tup [vec v',int 0])) (hL:Rq 0 27 0 (a1S v v' dv s0 n0 sq tm n nm) (.exit 0) (b1X v v' dv s0 n0 sq tm n nm)) (hB:CallC P G 54 [.own 0 0 0 1,pt3 nm,apF] [.arr 0 7 false [fl nm (tl1 dv s0 n0)]] (.ret (.tup [int 0,Am.bool true])) [.arr 0 7 false [fl nm (tl1 dv s0 n0)]]) (hE:CallC P G 262 [.apt 0 0 0 0,copA dv sq tm n nm] [.arr 0 7 false [fl nm (tl1 dv s0 n0)]] (.ret (int 0)) [.arr 0 7 false [fl nm (tl1 dv sq n1)]]) (hM:MapGet P 3 effE (.int .i64 5) zE (.agg [fnV 262]) true) (out:AOut) (H':List AObj) (h:(AOut.ret (AV.tup [AV.agg [AV.sl 2 false (encs v'),AV.own 4 0 0 1],int 0])=out)∧([AObj.box [vec v,AV.sl 7 false [[int 3,str nm,nilS,nilS,AV.sl 3 false [[int dv,int s0,int n0]],nilS,nilS]]],AObj.box [int dv,int sq,int tm,AV.sl 2 false [],int 3,str nm,int 5,int 0,int 0,int 0,int 0,int 0,int 0,str ByteArray.empty,str ByteArray.empty,int n,Am.bool false],AObj.box [AV.sl 2 false (encs v'),AV.own 4 0 0 1],AObj.gone,AObj.arr 0 7 false [[int 3,str nm,nilS,nilS,AV.sl 3 false [[int dv,int sq,int n1]],nilS,nilS]]]=H')):CallC P G 27 [d1 v nm dv s0 n0,copA dv sq tm n nm] [] out H':=by
 have hz10:∀ (x:List AV),x∈[fl nm (tl1 dv s0 n0)]→AV.idsInL [] x=true:=(by exact (Am.allm_cons rfl Am.allm_nil))
 obtain ⟨e1,eH⟩:=h
 exact CallC.heap (e1 ▸ ((show CallC P G 27 [d1 v nm dv s0 n0,copA dv sq tm n nm] [] (AOut.ret (AV.tup [AV.agg [AV.sl 2 false (encs v'),AV.own 4 0 0 1],int 0])) [AObj.box [AV.sl 2 false (encs v),AV.sl 7 false [[int 3,str nm,nilS,nilS,AV.sl 3 false [[int dv,int s0,int n0]],nilS,nilS]]],AObj.box [int dv,int sq,int tm,AV.sl 2 false [],int 3,str nm,int 5,int 0,int 0,int 0,int 0,int 0,int 0,str ByteArray.empty,str ByteArray.empty,int n,Am.bool false],AObj.box [AV.sl 2 false (encs v'),AV.own 4 0 0 1],AObj.gone,AObj.arr 0 7 false [[int 3,str nm,nilS,nilS,AV.sl 3 false [[int dv,int sq,int n1]],nilS,nilS]]] from callC_of [kc [] hK,kY,kc [] hO,kY,kc [] hV,kY,kc [] hA,kW 41 (sq - 1) (sq - 1),kf (show (sq - 1 != sq - 1)=false from (congrArg Bool.not (qT (by omega)))),kc [0] hF,kY,kc [] hW,kY,kl (rG [(0,2),(6,58),(67,42)]) 3 hL,kc [4] hB,kp hz10,kp (show ∀ (x:List AV),x∈[[int 3,str nm,nilS,nilS,AV.sl 3 false [[int dv,int s0,int n0]],nilS,nilS]]→AV.idsInL [] x=true from (by exact (Am.allm_cons rfl Am.allm_nil))),kY,ko (Orc.mget (AV.agg [fnV 262]) true),kp hM,kq 0,kR (0:Int) (1:Int),kc [4] hE,kp (show ∀ (x:List AV),x∈[fl nm (tl1 dv sq n1)]→AV.idsInL [] x=true from (by exact (Am.allm_cons rfl Am.allm_nil))),kp hz10]))) eH
end Go.Mg


namespace Go.Mg
open Go Go.Am Go.Proofs Go.Seat Go.Vec Go.Cdc Go.Ops
def inS (l:List OP) (o:OP) (k:Nat):St:={ env:=slots 77 [(0,opl l),(3,.ptr 0 0),(4,nilS),(5,AV.sl 17 true []),(6,Am.bool false),(7,int k)],H:=[.box (opc o)] }
end Go.Mg


namespace Go.Am
open Go
section
variable {P:Program} {G:Nat→Option (List AV)}
theorem CallC.frzOut {f:FuncId} {args:List AV} {H H' H1:List AObj} {x y:AV} {z:List (List AV)} {ps:List Prop} (h:CallC P G f args H (.ret x) H') (ha:evalFrz H' x z=some (y,H1,ps)) (hps:AllP ps):CallC P G f args H (.ret y) H1 :=
 fun V vs hH hG hr=>(h V vs hH hG hr).mono fun e w' he=>by
  obtain ⟨V',rfl,k2,k3,k4,k5⟩:=he
  cases e with
  | returned v =>
   obtain ⟨V1,l1,l2,l3,l4,l5⟩:=frz_sound (by rw [k4]; exact ha) hps k3 k5
   exact ⟨V1,l1,k2.trans l3,l4,l2,l5⟩
  | panicked _=>exact k5.elim
  | outgrown=>exact k5.elim
theorem CallC.cutOut {f:FuncId} {args:List AV} {H H' H3:List AObj} {x:AV} {qs:List Prop} (h:CallC P G f args H (.ret x) H') (hc:cutF H.length x H'=some (H3,qs)) (hq:AllP qs):CallC P G f args H (.ret x) H3 :=
 fun V vs hH hG hr=>(h V vs hH hG hr).mono fun e w' he=>by
  obtain ⟨V',rfl,k2,k3,k4,k5⟩:=he
  cases e with
  | returned v =>
   obtain ⟨V3,n1,n2,n3,n4,n5⟩:=cutF_sound (V0:=V) (by rw [k4]; exact hc) hq (by rw [hH]) k2 k3 k5
   exact ⟨V3,n1,n2,n3,n4,n5⟩
  | panicked _=>exact k5.elim
  | outgrown=>exact k5.elim
end
end Go.Am


namespace Go.Mg
open Go Go.Am Go.Proofs Go.Seat Go.Vec Go.Cdc Go.Ops
theorem rput_len:∀ (l:List OP) (o:OP),(rput l o).length≤l.length+1
 | [],_=>Nat.le_refl _
 | x::l,o=>by
  unfold rput
  have:=rput_len l o
  split
  · simp only [List.length_cons]; omega
  · split
    · have:=List.length_filter_le (fun y=>decide (dt y≠dt o)) l
      simp only [List.length_cons]; omega
    · simp only [List.length_cons]; omega
theorem rins_len (l:List OP) (o:OP):(rins l o).length≤l.length+1:=by
 unfold rins
 split
 · omega
 · exact rput_len l o
theorem ocs_ne {l:List OP} (h:l≠[]):¬ ocs l=[]:=fun e=>h (List.eq_nil_of_length_eq_zero (by have:=congrArg List.length e; rwa [ocs_length] at this))
end Go.Mg


namespace Go.Mg
open Go Go.Am Go.Proofs Go.Seat Go.Vec Go.Cdc Go.Ops
def pU (v:List D) (u:List OP) (x y:AV) (i:Nat):List AV:=slots 36 [(1,vec v),(4,x),(5,y),(6,int 0),(15,opl u),(16,int u.length),(17,int i)]
def pX (x y:AV):List AV:=slots 36 [(4,x),(5,y)]
theorem pay_w (v:List D) (u:List OP) (hv:v.length≤1000000000) (hu:u.length≤1000000) (i:Nat) (o:OP) (hi:(i:Int)<(u.length:Int)) (hx:u[i]? = some o) (hC:Cq 28 [vec v,dot (o.dv,o.sq)] (Am.bool true)) (ex:AEx) (s':St) (h:Rq 0 22 0 (sM 36 [(1,vec v),(4,.own 1 0 0 (List.length [o])),(5,nilS),(6,int 0),(15,opl u),(16,int ↑u.length),(17,int ↑(i+1))] [.box (opc o),.arr 0 17 false (ocs [o])]) ex s'):Rq 0 22 0 (St.mk (pU v u nilS nilS i) [] []) ex s':=by
 exact loop_next [ki ((i:Int)<u.length),ke (opc o) (ocs u) i (el_nat hx),kc [] hC,kO,kne (opc o),kBd 176,kW 33 (i+1) ↑(i+1)] (others 36 [1,4,5,6,15,16,17]) 2 h
theorem pan_w (v:List D) (u:List OP) (hv:v.length≤1000000000) (hu:u.length≤1000000) (i:Nat) (o:OP) (hi:(i:Int)<(u.length:Int)) (hx:u[i]? = some o) (hC:Cq 28 [vec v,dot (o.dv,o.sq)] (Am.bool false)) (ex:AEx) (s':St) (h:Rq 0 22 0 (sM 36 [(1,vec v),(4,nilS),(5,.own 1 0 0 (List.length [o])),(6,int 0),(15,opl u),(16,int ↑u.length),(17,int ↑(i+1))] [.box (opc o),.arr 0 17 false (ocs [o])]) ex s'):Rq 0 22 0 (St.mk (pU v u nilS nilS i) [] []) ex s':=by
 exact loop_next [ki ((i:Int)<u.length),ke (opc o) (ocs u) i (el_nat hx),kc [] hC,kY,kne (opc o),kBd 176,kW 33 (i+1) ↑(i+1)] (others 36 [1,4,5,6,15,16,17]) 2 h
theorem pae_w (v:List D) (u:List OP) (hv:v.length≤1000000000) (hu:u.length≤1000000) (i:Nat) (hi:¬ (i:Int)<(u.length:Int)) (h:True):Rq 0 22 0 (St.mk (pU v u nilS nilS i) [] []) (AEx.exit 0) (St.mk (pX nilS nilS) [] []):=by
 have _:=h
 exact loop_exit [kj ((i:Int)<u.length)] (others 36 [4,5]) 0
theorem paf_w (l:List OP) (v:List D) (u:List OP) (hK:Cq 46 [vec v] (int 0)) (hU:Cq 14 [opl l,nilS] (opl u)) (hL:Rq 0 22 0 { env:=pU v u nilS nilS 0,H:=[] } (.exit 0) { env:=pX nilS nilS,H:=[] }) (h:True):Cq 22 [opl l,vec v] (.tup [nilS,nilS,int 0]):=by
 have _:=h
 exact callC_of [kc [] hK,kY,kc [] hU,kN 16 (ocs_length u),kl (rG [(0,1),(2,2),(7,8),(18,18)]) 0 hL]
theorem piy_w (v:List D) (u:List OP) (hv:v.length≤1000000000) (hu:u.length≤1000000) (i:Nat) (g:Nat) (a:List OP) (ha:a.length≤1000000) (o:OP) (hi:(i:Int)<(u.length:Int)) (hx:u[i]? = some o) (hC:Cq 28 [vec v,dot (o.dv,o.sq)] (Am.bool true)) (ex:AEx) (s':St) (h:Rq 0 22 0 (sM 36 [(1,vec v),(4,.own 1 (g+1) 0 (List.length a+1)),(5,nilS),(6,int 0),(15,opl u),(16,int ↑u.length),(17,int ↑(i+1))] [.gone,.arr (g+1) 17 false (ocs a++ocs [o])]) ex s'):Rq 0 22 0 (St.mk (pU v u (AV.own 1 g 0 a.length) nilS i) [AObj.gone,AObj.arr g 17 false (ocs a)] []) ex s':=by
 exact loop_next [ki ((i:Int)<u.length),ke (opc o) (ocs u) i (el_nat hx),kc [] hC,kO,kq g,kp (ocs_length a).symm,kBd ((List.length a+1) * 176),kW 33 (i+1) ↑(i+1),kp (show ∀ (x:List AV),x∈ocs a++[[int o.dv,int o.sq,int o.tm,AV.sl 2 false (encs o.cx),int o.pk,str o.pn,int o.kd,int o.f1,int o.f2,int o.f3,int o.t1,int o.t2,int o.t3,str o.ky,str o.vl,int o.n,Am.bool o.on]]→AV.idsInL [] x=true from (by exact (Am.allm_append (ocs_ids _) (Am.allm_cons rfl Am.allm_nil))))] (others 36 [1,4,5,6,15,16,17]) 2 h
theorem pin_w (v:List D) (u:List OP) (hv:v.length≤1000000000) (hu:u.length≤1000000) (i:Nat) (g:Nat) (a:List OP) (ha:a.length≤1000000) (o:OP) (hi:(i:Int)<(u.length:Int)) (hx:u[i]? = some o) (hC:Cq 28 [vec v,dot (o.dv,o.sq)] (Am.bool false)) (ex:AEx) (s':St) (h:Rq 0 22 0 (sM 36 [(1,vec v),(4,.own 1 g 0 a.length),(5,.own 3 0 0 (List.length [o])),(6,int 0),(15,opl u),(16,int ↑u.length),(17,int ↑(i+1))] [.gone,.arr g 17 false (ocs a),.box (opc o),.arr 0 17 false (ocs [o])]) ex s'):Rq 0 22 0 (St.mk (pU v u (AV.own 1 g 0 a.length) nilS i) [AObj.gone,AObj.arr g 17 false (ocs a)] []) ex s':=by
 exact loop_next [ki ((i:Int)<u.length),ke (opc o) (ocs u) i (el_nat hx),kc [] hC,kY,kne (opc o),kBd 176,kW 33 (i+1) ↑(i+1)] (others 36 [1,4,5,6,15,16,17]) 4 h
theorem pie_w (v:List D) (u:List OP) (hv:v.length≤1000000000) (hu:u.length≤1000000) (i:Nat) (g:Nat) (a:List OP) (ha:a.length≤1000000) (hi:¬ (i:Int)<(u.length:Int)) (h:True):Rq 0 22 0 (St.mk (pU v u (AV.own 1 g 0 a.length) nilS i) [AObj.gone,AObj.arr g 17 false (ocs a)] []) (AEx.exit 0) (St.mk (pX (AV.own 1 g 0 a.length) nilS) [AObj.gone,AObj.arr g 17 false (ocs a)] []):=by
 have _:=h
 exact loop_exit [kj ((i:Int)<u.length)] (others 36 [4,5]) 2
theorem pif_w (l:List OP) (v:List D) (u:List OP) (g:Nat) (a:List OP) (ha:a.length≤1000000) (hK:Cq 46 [vec v] (int 0)) (hU:Cq 14 [opl l,nilS] (opl u)) (hL:Rq 0 22 0 { env:=pU v u nilS nilS 0,H:=[] } (.exit 0) { env:=pX (.own 1 g 0 a.length) nilS,H:=[.gone,.arr g 17 false (ocs a)] }) (h:True):Cq 22 [opl l,vec v] (.tup [opl a,nilS,int 0]):=by
 have _:=h
 exact callC_of [kc [] hK,kY,kc [] hU,kN 16 (ocs_length u),kl (rG [(0,1),(2,2),(7,8),(18,18)]) 0 hL,ko (Orc.frz (ocs a)),kq g,kTk a.length (ocs a) (by simp only [List.length_append,List.length_cons,List.length_nil,List.length_map,ocs_length,ocs_ids,ocs_pure]<;>omega),kp (ocs_length a),kp (ocs_pure a)]
theorem poy_w (v:List D) (u:List OP) (hv:v.length≤1000000000) (hu:u.length≤1000000) (i:Nat) (gb:Nat) (b:List OP) (hb:b.length≤1000000) (o:OP) (hi:(i:Int)<(u.length:Int)) (hx:u[i]? = some o) (hC:Cq 28 [vec v,dot (o.dv,o.sq)] (Am.bool true)) (ex:AEx) (s':St) (h:Rq 0 22 0 (sM 36 [(1,vec v),(4,.own 3 0 0 (List.length [o])),(5,.own 1 gb 0 b.length),(6,int 0),(15,opl u),(16,int ↑u.length),(17,int ↑(i+1))] [.gone,.arr gb 17 false (ocs b),.box (opc o),.arr 0 17 false (ocs [o])]) ex s'):Rq 0 22 0 (St.mk (pU v u nilS (AV.own 1 gb 0 b.length) i) [AObj.gone,AObj.arr gb 17 false (ocs b)] []) ex s':=by
 exact loop_next [ki ((i:Int)<u.length),ke (opc o) (ocs u) i (el_nat hx),kc [] hC,kO,kne (opc o),kBd 176,kW 33 (i+1) ↑(i+1)] (others 36 [1,4,5,6,15,16,17]) 4 h
theorem pon_w (v:List D) (u:List OP) (hv:v.length≤1000000000) (hu:u.length≤1000000) (i:Nat) (gb:Nat) (b:List OP) (hb:b.length≤1000000) (o:OP) (hi:(i:Int)<(u.length:Int)) (hx:u[i]? = some o) (hC:Cq 28 [vec v,dot (o.dv,o.sq)] (Am.bool false)) (ex:AEx) (s':St) (h:Rq 0 22 0 (sM 36 [(1,vec v),(4,nilS),(5,.own 1 (gb+1) 0 (List.length b+1)),(6,int 0),(15,opl u),(16,int ↑u.length),(17,int ↑(i+1))] [.gone,.arr (gb+1) 17 false (ocs b++ocs [o])]) ex s'):Rq 0 22 0 (St.mk (pU v u nilS (AV.own 1 gb 0 b.length) i) [AObj.gone,AObj.arr gb 17 false (ocs b)] []) ex s':=by
 exact loop_next [ki ((i:Int)<u.length),ke (opc o) (ocs u) i (el_nat hx),kc [] hC,kY,kq gb,kp (ocs_length b).symm,kBd ((List.length b+1) * 176),kW 33 (i+1) ↑(i+1),kp (show ∀ (x:List AV),x∈ocs b++[[int o.dv,int o.sq,int o.tm,AV.sl 2 false (encs o.cx),int o.pk,str o.pn,int o.kd,int o.f1,int o.f2,int o.f3,int o.t1,int o.t2,int o.t3,str o.ky,str o.vl,int o.n,Am.bool o.on]]→AV.idsInL [] x=true from (by exact (Am.allm_append (ocs_ids _) (Am.allm_cons rfl Am.allm_nil))))] (others 36 [1,4,5,6,15,16,17]) 2 h
theorem poe_w (v:List D) (u:List OP) (hv:v.length≤1000000000) (hu:u.length≤1000000) (i:Nat) (gb:Nat) (b:List OP) (hb:b.length≤1000000) (hi:¬ (i:Int)<(u.length:Int)) (h:True):Rq 0 22 0 (St.mk (pU v u nilS (AV.own 1 gb 0 b.length) i) [AObj.gone,AObj.arr gb 17 false (ocs b)] []) (AEx.exit 0) (St.mk (pX nilS (AV.own 1 gb 0 b.length)) [AObj.gone,AObj.arr gb 17 false (ocs b)] []):=by
 have _:=h
 exact loop_exit [kj ((i:Int)<u.length)] (others 36 [4,5]) 2
theorem pof_w (l:List OP) (v:List D) (u:List OP) (gb:Nat) (b:List OP) (hb:b.length≤1000000) (hK:Cq 46 [vec v] (int 0)) (hU:Cq 14 [opl l,nilS] (opl u)) (hL:Rq 0 22 0 { env:=pU v u nilS nilS 0,H:=[] } (.exit 0) { env:=pX nilS (.own 1 gb 0 b.length),H:=[.gone,.arr gb 17 false (ocs b)] }) (out:AOut) (H':List AObj) (h:(AOut.ret (AV.tup [nilS,AV.own 1 gb 0 b.length,int 0])=out)∧([AObj.gone,AObj.arr gb 17 false (ocs b)]=H')):CallC P G 22 [opl l,vec v] [] out H':=by
 obtain ⟨e1,eH⟩:=h
 exact CallC.heap (e1 ▸ ((show CallC P G 22 [opl l,vec v] [] (AOut.ret (AV.tup [nilS,AV.own 1 gb 0 b.length,int 0])) [AObj.gone,AObj.arr gb 17 false (ocs b)] from callC_of [kc [] hK,kY,kc [] hU,kN 16 (ocs_length u),kl (rG [(0,1),(2,2),(7,8),(18,18)]) 0 hL]))) eH
theorem pjy_w (v:List D) (u:List OP) (hv:v.length≤1000000000) (hu:u.length≤1000000) (i:Nat) (g:Nat) (a:List OP) (ha:a.length≤1000000) (gb:Nat) (b:List OP) (hb:b.length≤1000000) (o:OP) (hi:(i:Int)<(u.length:Int)) (hx:u[i]? = some o) (hC:Cq 28 [vec v,dot (o.dv,o.sq)] (Am.bool true)) (ex:AEx) (s':St) (h:Rq 0 22 0 (sM 36 [(1,vec v),(4,.own 1 (g+1) 0 (List.length a+1)),(5,.own 3 gb 0 b.length),(6,int 0),(15,opl u),(16,int ↑u.length),(17,int ↑(i+1))] [.gone,.arr (g+1) 17 false (ocs a++ocs [o]),.gone,.arr gb 17 false (ocs b)]) ex s'):Rq 0 22 0 (St.mk (pU v u (AV.own 1 g 0 a.length) (AV.own 3 gb 0 b.length) i) [AObj.gone,AObj.arr g 17 false (ocs a),AObj.gone,AObj.arr gb 17 false (ocs b)] []) ex s':=by
 exact loop_next [ki ((i:Int)<u.length),ke (opc o) (ocs u) i (el_nat hx),kc [] hC,kO,kq g,kp (ocs_length a).symm,kBd ((List.length a+1) * 176),kW 33 (i+1) ↑(i+1),kp (show ∀ (x:List AV),x∈ocs a++[[int o.dv,int o.sq,int o.tm,AV.sl 2 false (encs o.cx),int o.pk,str o.pn,int o.kd,int o.f1,int o.f2,int o.f3,int o.t1,int o.t2,int o.t3,str o.ky,str o.vl,int o.n,Am.bool o.on]]→AV.idsInL [] x=true from (by exact (Am.allm_append (ocs_ids _) (Am.allm_cons rfl Am.allm_nil)))),kp (ocs_ids b)] (others 36 [1,4,5,6,15,16,17]) 4 h
theorem pjn_w (v:List D) (u:List OP) (hv:v.length≤1000000000) (hu:u.length≤1000000) (i:Nat) (g:Nat) (a:List OP) (ha:a.length≤1000000) (gb:Nat) (b:List OP) (hb:b.length≤1000000) (o:OP) (hi:(i:Int)<(u.length:Int)) (hx:u[i]? = some o) (hC:Cq 28 [vec v,dot (o.dv,o.sq)] (Am.bool false)) (ex:AEx) (s':St) (h:Rq 0 22 0 (sM 36 [(1,vec v),(4,.own 1 g 0 a.length),(5,.own 3 (gb+1) 0 (List.length b+1)),(6,int 0),(15,opl u),(16,int ↑u.length),(17,int ↑(i+1))] [.gone,.arr g 17 false (ocs a),.gone,.arr (gb+1) 17 false (ocs b++ocs [o])]) ex s'):Rq 0 22 0 (St.mk (pU v u (AV.own 1 g 0 a.length) (AV.own 3 gb 0 b.length) i) [AObj.gone,AObj.arr g 17 false (ocs a),AObj.gone,AObj.arr gb 17 false (ocs b)] []) ex s':=by
 exact loop_next [ki ((i:Int)<u.length),ke (opc o) (ocs u) i (el_nat hx),kc [] hC,kY,kq gb,kp (ocs_length b).symm,kBd ((List.length b+1) * 176),kW 33 (i+1) ↑(i+1),kp (ocs_ids a),kp (show ∀ (x:List AV),x∈ocs b++[[int o.dv,int o.sq,int o.tm,AV.sl 2 false (encs o.cx),int o.pk,str o.pn,int o.kd,int o.f1,int o.f2,int o.f3,int o.t1,int o.t2,int o.t3,str o.ky,str o.vl,int o.n,Am.bool o.on]]→AV.idsInL [] x=true from (by exact (Am.allm_append (ocs_ids _) (Am.allm_cons rfl Am.allm_nil))))] (others 36 [1,4,5,6,15,16,17]) 4 h
theorem pje_w (v:List D) (u:List OP) (hv:v.length≤1000000000) (hu:u.length≤1000000) (i:Nat) (g:Nat) (a:List OP) (ha:a.length≤1000000) (gb:Nat) (b:List OP) (hb:b.length≤1000000) (hi:¬ (i:Int)<(u.length:Int)) (h:True):Rq 0 22 0 (St.mk (pU v u (AV.own 1 g 0 a.length) (AV.own 3 gb 0 b.length) i) [AObj.gone,AObj.arr g 17 false (ocs a),AObj.gone,AObj.arr gb 17 false (ocs b)] []) (AEx.exit 0) (St.mk (pX (AV.own 1 g 0 a.length) (AV.own 3 gb 0 b.length)) [AObj.gone,AObj.arr g 17 false (ocs a),AObj.gone,AObj.arr gb 17 false (ocs b)] []):=by
 have _:=h
 exact loop_exit [kj ((i:Int)<u.length)] (others 36 [4,5]) 4
theorem pjf_w (l:List OP) (v:List D) (u:List OP) (g:Nat) (a:List OP) (ha:a.length≤1000000) (gb:Nat) (b:List OP) (hb:b.length≤1000000) (hK:Cq 46 [vec v] (int 0)) (hU:Cq 14 [opl l,nilS] (opl u)) (hL:Rq 0 22 0 { env:=pU v u nilS nilS 0,H:=[] } (.exit 0) { env:=pX (.own 1 g 0 a.length) (.own 3 gb 0 b.length),H:=[.gone,.arr g 17 false (ocs a),.gone,.arr gb 17 false (ocs b)] }) (h:True):Cq 22 [opl l,vec v] (.tup [opl a,opl b,int 0]):=by
 have _:=h
 exact callC_of [kc [] hK,kY,kc [] hU,kN 16 (ocs_length u),kl (rG [(0,1),(2,2),(7,8),(18,18)]) 0 hL,ko (Orc.frz (ocs a)),ko (Orc.frz (ocs b)),kq g,kTk a.length (ocs a) (by simp only [List.length_append,List.length_cons,List.length_nil,List.length_map,ocs_length,ocs_ids,ocs_pure]<;>omega),kp (ocs_length a),kp (ocs_pure a),kq gb,kTk b.length (ocs b) (by simp only [List.length_append,List.length_cons,List.length_nil,List.length_map,ocs_length,ocs_ids,ocs_pure]<;>omega),kp (ocs_length b),kp (ocs_pure b)]
theorem pky_w (v:List D) (u:List OP) (hv:v.length≤1000000000) (hu:u.length≤1000000) (i:Nat) (g:Nat) (a:List OP) (ha:a.length≤1000000) (gb:Nat) (b:List OP) (hb:b.length≤1000000) (o:OP) (hi:(i:Int)<(u.length:Int)) (hx:u[i]? = some o) (hC:Cq 28 [vec v,dot (o.dv,o.sq)] (Am.bool true)) (ex:AEx) (s':St) (h:Rq 0 22 0 (sM 36 [(1,vec v),(4,.own 3 (g+1) 0 (List.length a+1)),(5,.own 1 gb 0 b.length),(6,int 0),(15,opl u),(16,int ↑u.length),(17,int ↑(i+1))] [.gone,.arr gb 17 false (ocs b),.gone,.arr (g+1) 17 false (ocs a++ocs [o])]) ex s'):Rq 0 22 0 (St.mk (pU v u (AV.own 3 g 0 a.length) (AV.own 1 gb 0 b.length) i) [AObj.gone,AObj.arr gb 17 false (ocs b),AObj.gone,AObj.arr g 17 false (ocs a)] []) ex s':=by
 exact loop_next [ki ((i:Int)<u.length),ke (opc o) (ocs u) i (el_nat hx),kc [] hC,kO,kq g,kp (ocs_length a).symm,kBd ((List.length a+1) * 176),kW 33 (i+1) ↑(i+1),kp (ocs_ids b),kp (show ∀ (x:List AV),x∈ocs a++[[int o.dv,int o.sq,int o.tm,AV.sl 2 false (encs o.cx),int o.pk,str o.pn,int o.kd,int o.f1,int o.f2,int o.f3,int o.t1,int o.t2,int o.t3,str o.ky,str o.vl,int o.n,Am.bool o.on]]→AV.idsInL [] x=true from (by exact (Am.allm_append (ocs_ids _) (Am.allm_cons rfl Am.allm_nil))))] (others 36 [1,4,5,6,15,16,17]) 4 h
theorem pkn_w (v:List D) (u:List OP) (hv:v.length≤1000000000) (hu:u.length≤1000000) (i:Nat) (g:Nat) (a:List OP) (ha:a.length≤1000000) (gb:Nat) (b:List OP) (hb:b.length≤1000000) (o:OP) (hi:(i:Int)<(u.length:Int)) (hx:u[i]? = some o) (hC:Cq 28 [vec v,dot (o.dv,o.sq)] (Am.bool false)) (ex:AEx) (s':St) (h:Rq 0 22 0 (sM 36 [(1,vec v),(4,.own 3 g 0 a.length),(5,.own 1 (gb+1) 0 (List.length b+1)),(6,int 0),(15,opl u),(16,int ↑u.length),(17,int ↑(i+1))] [.gone,.arr (gb+1) 17 false (ocs b++ocs [o]),.gone,.arr g 17 false (ocs a)]) ex s'):Rq 0 22 0 (St.mk (pU v u (AV.own 3 g 0 a.length) (AV.own 1 gb 0 b.length) i) [AObj.gone,AObj.arr gb 17 false (ocs b),AObj.gone,AObj.arr g 17 false (ocs a)] []) ex s':=by
 exact loop_next [ki ((i:Int)<u.length),ke (opc o) (ocs u) i (el_nat hx),kc [] hC,kY,kq gb,kp (ocs_length b).symm,kBd ((List.length b+1) * 176),kW 33 (i+1) ↑(i+1),kp (show ∀ (x:List AV),x∈ocs b++[[int o.dv,int o.sq,int o.tm,AV.sl 2 false (encs o.cx),int o.pk,str o.pn,int o.kd,int o.f1,int o.f2,int o.f3,int o.t1,int o.t2,int o.t3,str o.ky,str o.vl,int o.n,Am.bool o.on]]→AV.idsInL [] x=true from (by exact (Am.allm_append (ocs_ids _) (Am.allm_cons rfl Am.allm_nil)))),kp (ocs_ids a)] (others 36 [1,4,5,6,15,16,17]) 4 h
theorem pke_w (v:List D) (u:List OP) (hv:v.length≤1000000000) (hu:u.length≤1000000) (i:Nat) (g:Nat) (a:List OP) (ha:a.length≤1000000) (gb:Nat) (b:List OP) (hb:b.length≤1000000) (hi:¬ (i:Int)<(u.length:Int)) (h:True):Rq 0 22 0 (St.mk (pU v u (AV.own 3 g 0 a.length) (AV.own 1 gb 0 b.length) i) [AObj.gone,AObj.arr gb 17 false (ocs b),AObj.gone,AObj.arr g 17 false (ocs a)] []) (AEx.exit 0) (St.mk (pX (AV.own 3 g 0 a.length) (AV.own 1 gb 0 b.length)) [AObj.gone,AObj.arr gb 17 false (ocs b),AObj.gone,AObj.arr g 17 false (ocs a)] []):=by
 have _:=h
 exact loop_exit [kj ((i:Int)<u.length)] (others 36 [4,5]) 4
theorem pkf_w (l:List OP) (v:List D) (u:List OP) (g:Nat) (a:List OP) (ha:a.length≤1000000) (gb:Nat) (b:List OP) (hb:b.length≤1000000) (hK:Cq 46 [vec v] (int 0)) (hU:Cq 14 [opl l,nilS] (opl u)) (hL:Rq 0 22 0 { env:=pU v u nilS nilS 0,H:=[] } (.exit 0) { env:=pX (.own 3 g 0 a.length) (.own 1 gb 0 b.length),H:=[.gone,.arr gb 17 false (ocs b),.gone,.arr g 17 false (ocs a)] }) (h:True):Cq 22 [opl l,vec v] (.tup [opl a,opl b,int 0]):=by
 have _:=h
 exact callC_of [kc [] hK,kY,kc [] hU,kN 16 (ocs_length u),kl (rG [(0,1),(2,2),(7,8),(18,18)]) 0 hL,ko (Orc.frz (ocs a)),ko (Orc.frz (ocs b)),kq g,kTk a.length (ocs a) (by simp only [List.length_append,List.length_cons,List.length_nil,List.length_map,ocs_length,ocs_ids,ocs_pure]<;>omega),kp (ocs_length a),kp (ocs_pure a),kq gb,kTk b.length (ocs b) (by simp only [List.length_append,List.length_cons,List.length_nil,List.length_map,ocs_length,ocs_ids,ocs_pure]<;>omega),kp (ocs_length b),kp (ocs_pure b)]
theorem pzf_w (l:List OP) (v:List D) (e:Int) (he:e≠0) (hK:Cq 46 [vec v] (int e)) (h:True):Cq 22 [opl l,vec v] (.tup [nilS,nilS,int e]):=by
 have _:=h
 exact callC_of [kc [] hK,kt (show (e != 0)=true from (congrArg Bool.not (qF (by omega))))]
end Go.Mg


namespace Go.Am
open Go
theorem CallC.frzMapR {P:Program} {G:Nat→Option (List AV)} {f:FuncId} {W:List (Value × AV)} {out:AOut} {H':List AObj} (hp:∀ e∈W,∀ (V:View) (v:Value),Rep V e.2 v→PRep V.w V.M e.2 v) (hc:CallC P G f [.md true W] [] out H'):CallC P G f [.mp 0] [.map W] (out.ren (upto [] 1)) (.gone::H'.map (AObj.ren (upto [] 1))):=by
 intro V vs hH hG hr
 obtain ⟨v,rfl⟩:∃ v,vs=[v]:=by
  have:=hr.1
  match vs,this with
  | [v],_=>exact ⟨v,rfl⟩
 obtain ⟨V1,k1,k2,k3,k4,k5⟩:=frzMap_sound (by rw [hH]; rfl) hp hG hr.head
 have hx:Reps V1 [.md true W] [v]:=.cons k5 .nil
 have hin:AV.idsInL [] [AV.md true W]=true:=rfl
 have r:=renL_none (at0 []) [AV.md true W] hin
 have:=CallC.frame hc k4 (e:=[]) List.nodup_nil (by simp) rfl (fun i o ho=>by simp at ho) (fun i o ho=>by simp at ho) hx r.1.symm (r.2 _)
 rw [k2,k1,hH] at this
 exact this.mono fun e w' ⟨V2,a1,a2,a3,a4,a5⟩=>⟨V2,a1,k3.trans a2,a3,a4,a5⟩
end Go.Am
namespace Go.Mg
open Go Go.Am Go.Proofs Go.Seat Go.Vec Go.Cdc Go.Ops
theorem ocs_ren (l:List OP) (σ:Nat→Nat):(ocs l).map (AV.renL σ)=ocs l :=
 (List.map_congr_left fun x hx=>(renL_none σ x (ocs_ids l x hx)).1).trans (List.map_id _)
theorem sorted_m (l:List OP) (hl:l.length≤1000000) (hg:Gds l):CallC P G 35 [.mp 0] [.map ((known [] l).map en)] (.ret (if uni l=[] then nilS else .own 8 ((uni l).length - 1) 0 (uni l).length)) (if uni l=[] then [.gone] else [.gone,.gone,.gone,.gone,.gone,.gone,.gone,.gone,.arr ((uni l).length - 1) 17 false (ocs (uni l))]):=by
 have h:=CallC.frzMapR (en_pure _) (sorted_own l hl hg)
 cases e:uni l with
 | nil =>
  rw [e] at h
  rw [if_pos rfl,if_pos rfl]
  exact h
 | cons o v =>
  rw [e] at h
  rw [if_neg (by simp),if_neg (by simp)]
  have e2:(oH (o::v)).map (AObj.ren (upto [] 1))=[.gone,.gone,.gone,.gone,.gone,.gone,.gone,.arr v.length 17 false ((ocs (o::v)).map (AV.renL (upto [] 1)))]:=rfl
  rw [e2,ocs_ren] at h
  exact h
theorem runion_len:∀ (l m:List OP),(runion m l).length≤m.length+l.length
 | [],m=>Nat.le_refl _
 | o::l,m=>by
  have h1:=runion_len l (radd m o)
  have h2:(radd m o).length≤m.length+1:=by
   unfold radd
   split
   · exact rins_len m o
   · omega
  show (runion (radd m o) l).length≤_
  simp only [List.length_cons]; omega
theorem uni_len (l:List OP):(uni l).length≤l.length:=by
 have:=runion_len l []
 simpa [uni] using this
theorem rdyG_length {m:List D→OP→Bool} {pt:List D→OP→List D}:∀ {n:Nat} {W:List D} {l:List OP},(rdyG m pt n W l).length≤n
 | 0,_,_=>Nat.le_refl _
 | n+1,W,l=>by
  unfold rdyG
  split
  · simp
  · simp only [List.length_cons]
    have:=rdyG_length (m:=m) (pt:=pt) (n:=n) (W:=pt W ‹_›) (l:=‹_›)
    omega
theorem uni_gv {l:List OP} (h:Gds l):Gvs (uni l):=fun o ho=>⟨uni_gd h o ho,uni_valid h o ho⟩
theorem ready_c (l:List OP) (hl:l.length≤400000) (hg:Gds l):Cq 16 [opl l] (oplN (rdy (uni l))):=by
 have hk:=known_c [l] (by simp) (fun x hx=>by rw [List.mem_singleton.1 hx]; exact ⟨by omega,hg⟩) compare_c
 rw [show [l].flatten=l by simp] at hk
 have hs:=sorted_m l (by omega) hg
 have hlen:=uni_len l
 by_cases hu:uni l=[]
 · rw [if_pos hu,if_pos hu] at hs
   rw [hu]
   exact rd_n l _ hk hs (en_idsIn _) trivial
 · rw [if_neg hu,if_neg hu] at hs
   have hRS:RS (uni l) (ocs (uni l)) []:=⟨List.take_of_length_le (by rw [ocs_length]; exact Nat.le_refl _),by rw [ocs_length]; exact Nat.le_refl _,by rw [ocs_length]; omega,ocs_ids _,uni_gv hg,fun _ h=>(by cases h)⟩
   rcases rdy_loop0 (uni l).length hRS ((uni l).length - 1) (Nat.le_refl _) (by omega) with ⟨e,h⟩ | ⟨xs',g3,S',g4,k1,h,hne⟩
   · rw [show rdy (uni l)=[] from e]
     exact rd_0 l (uni l) _ _ _ _ _ (by omega) (ocs_ids _) hk hs (en_idsIn _) h trivial
   · have hr:(rdy (uni l)).length≤(uni l).length:=rdyG_length
     rw [oplN,if_neg (show rdy (uni l)≠[] from hne)]
     have h:Rq 0 16 0 (rS0 (ocs (uni l)) ((uni l).length - 1) (uni l).length []) .ret (rX1 xs' g3 S' g4 (rdy (uni l))):=h
     generalize rdy (uni l)=v at *
     have h9:=rd_1 l (uni l) _ _ xs' g3 S' g4 v (by omega) (by omega) k1 hk hs (en_idsIn _) _ _ h ⟨rfl,rfl⟩
     exact (h9.frzOut (z:=ocs v) (y:=opl v) (H1:=[.gone,.gone,.gone,.gone,.gone,.gone,.gone,.gone,.arr g3 17 false xs',.map (snE S'),.box [.mp 9],.gone,.gone,.gone,.gone,.arr g4 17 true (ocs v)]) (ps:=[g4=g4,List.take v.length (List.drop 0 (ocs v))=ocs v,(ocs v).length=v.length,∀ c∈ocs v,c.all AV.pureB=true]) rfl ⟨rfl,by rw [List.drop_zero,List.take_of_length_le (by rw [ocs_length]; exact Nat.le_refl _)],ocs_length _,ocs_pure _,trivial⟩).cutOut (H3:=[]) (qs:=[]) rfl trivial
end Go.Mg
