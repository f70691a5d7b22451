import Derived.Test.YtihbnnkcemjflaaGreatDoorG19
import Derived.KernelRfl
set_option maxRecDepth 100000
set_option linter.unusedSimpArgs false
set_option linter.unusedVariables false

namespace Go.Mg
open Go Go.Am Go.Proofs Go.Seat Go.Vec Go.Cdc Go.Ops
abbrev dt (o:OP):Int × Int:=(o.dv,o.sq)
def cm (a b:OP):Int:=cmpOV a b (encB (opV a)) (encB (opV b))
def okO (o:OP):Bool:=decide (chkOE o=0)
abbrev Gd (o:OP):Prop:=Okp o∧Few 20000 o
abbrev Gds (l:List OP):Prop:=∀ o∈l,Gd o
theorem cm_neg (a b:OP):cm b a = -cm a b:=cmpOV_neg a b _ _
theorem cm_self (a:OP):cm a a=0:=by have:=cm_neg a a; omega
theorem cm_le_trans {a b c:OP} (h:cm a b≤0) (k:cm b c≤0):cm a c≤0:=cmpOV_trans a b c _ _ _ h k
theorem cm_trans {a b c:OP} (h:cm a b<0) (k:cm b c<0):cm a c<0:=by
 have h1:=cm_le_trans (a:=a) (b:=b) (c:=c) (by omega) (by omega)
 rcases Int.lt_or_eq_of_le h1 with h2 | h2
 · exact h2
 · exfalso
   have h3:cm c a≤0:=by have:=cm_neg a c; omega
   have:=cm_le_trans (a:=b) (b:=c) (c:=a) (by omega) h3
   have:=cm_neg a b
   omega
theorem cm_eq {a b:OP} (ha:Gd a) (hb:Gd b) (va:okO a=true) (vb:okO b=true) (h:cm a b=0):a=b:=by
 have e:=cmpOV_eq h
 have h1:=dec_of_enc a (by decide) ha.1 ha.2 (of_decide_eq_true va)
 have h2:=dec_of_enc b (by decide) hb.1 hb.2 (of_decide_eq_true vb)
 rw [e,h2] at h1
 injection h1 with h1 _
 exact h1.symm
def Min (l:List OP) (x:OP):Prop:=x∈l∧okO x=true∧∀ y∈l,okO y=true→dt y=dt x→cm x y≤0
structure Canon (l m:List OP):Prop where
 sorted:m.Pairwise fun a b=>cm a b<0
 mem:∀ x,x∈m↔Min l x
theorem sorted_ext:∀ {l m:List OP},l.Pairwise (fun a b=>cm a b<0)→m.Pairwise (fun a b=>cm a b<0)→(∀ x,x∈l↔x∈m)→l=m
 | [],[],_,_,_=>rfl
 | [],b::m,_,_,h=>absurd ((h b).2 List.mem_cons_self) (by simp)
 | a::l,[],_,_,h=>absurd ((h a).1 List.mem_cons_self) (by simp)
 | a::l,b::m,hl,hm,h=>by
  have hl':=List.pairwise_cons.1 hl
  have hm':=List.pairwise_cons.1 hm
  have e:a=b:=by
   rcases List.mem_cons.1 ((h a).1 List.mem_cons_self) with e | ha
   · exact e
   · rcases List.mem_cons.1 ((h b).2 List.mem_cons_self) with e | hb
     · exact e.symm
     · have h1:=hl'.1 b hb
       have h2:=hm'.1 a ha
       have:=cm_neg a b
       omega
  subst e
  congr 1
  refine sorted_ext hl'.2 hm'.2 fun x=>?_
  constructor
  · intro hx
    rcases List.mem_cons.1 ((h x).1 (List.mem_cons_of_mem _ hx)) with rfl | hx'
    · have:=hl'.1 x hx; have:=cm_self x; omega
    · exact hx'
  · intro hx
    rcases List.mem_cons.1 ((h x).2 (List.mem_cons_of_mem _ hx)) with rfl | hx'
    · have:=hm'.1 x hx; have:=cm_self x; omega
    · exact hx'
theorem Canon.one {l m n:List OP} (h:Canon l m) (k:Canon l n):m=n:=sorted_ext h.sorted k.sorted fun x=>(h.mem x).trans (k.mem x).symm
def kput:List OP→OP→List OP
 | [],o=>[o]
 | x::l,o=>if dt x=dt o then (if cm o x<0 then o::l else x::l) else x::kput l o
def kadd (m:List OP) (o:OP):List OP:=if okO o=true then kput m o else m
def known (m l:List OP):List OP:=l.foldl kadd m
abbrev Dots (m:List OP):Prop:=m.Pairwise fun a b=>dt a≠dt b
theorem kput_dots:∀ {m:List OP} {o:OP} {d:Int × Int},d∈(kput m o).map dt↔d∈m.map dt∨d=dt o
 | [],o,d=>by simp [kput]
 | x::m,o,d=>by
  unfold kput
  split
  · rename_i h
    split
    · simp only [List.map_cons,List.mem_cons,← h]; grind
    · simp only [List.map_cons,List.mem_cons,← h]; grind
  · simp only [List.map_cons,List.mem_cons,kput_dots (m:=m)]; grind
theorem kput_nd:∀ {m:List OP} {o:OP},Dots m→Dots (kput m o)
 | [],o,_=>by simp [kput]
 | x::m,o,h=>by
  have h':=List.pairwise_cons.1 h
  unfold kput
  split
  · rename_i e
    split
    · exact List.pairwise_cons.2 ⟨fun y hy=>e ▸ h'.1 y hy,h'.2⟩
    · exact h
  · rename_i e
    refine List.pairwise_cons.2 ⟨fun y hy e'=>?_,kput_nd h'.2⟩
    have:dt y∈(kput m o).map dt:=List.mem_map.2 ⟨y,hy,rfl⟩
    rcases kput_dots.1 this with h1 | h1
    · obtain ⟨z,hz,ez⟩:=List.mem_map.1 h1
      exact h'.1 z hz (e'.trans ez.symm)
    · exact e (e'.trans h1)
theorem kput_mem:∀ {m:List OP} {o:OP},Dots m→∀ x,x∈kput m o↔(x∈m∧(dt x=dt o→¬ cm o x<0))∨(x=o∧∀ y∈m,dt y=dt o→cm o y<0)
 | [],o,_,x=>by simp [kput]
 | y::m,o,h,x=>by
  have h':=List.pairwise_cons.1 h
  unfold kput
  split
  · rename_i e
    have hm:∀ z∈m,dt z≠dt o:=fun z hz he=>h'.1 z hz (e.trans he.symm)
    split
    · rename_i hc
      simp only [List.mem_cons]
      constructor
      · rintro (rfl | hx)
        · exact .inr ⟨rfl,fun z hz he=>by
           rcases hz with rfl | hz
           · exact hc
           · exact absurd he (hm z hz)⟩
        · exact .inl ⟨.inr hx,fun he=>absurd he (hm x hx)⟩
      · rintro (⟨rfl | hx,h1⟩ | ⟨rfl,h1⟩)
        · exact absurd hc (h1 e)
        · exact .inr hx
        · exact .inl rfl
    · rename_i hc
      simp only [List.mem_cons]
      constructor
      · rintro (rfl | hx)
        · exact .inl ⟨.inl rfl,fun _=>hc⟩
        · exact .inl ⟨.inr hx,fun he=>absurd he (hm x hx)⟩
      · rintro (⟨hx,h1⟩ | ⟨rfl,h1⟩)
        · exact hx
        · exact absurd (h1 y (.inl rfl) e) hc
  · rename_i e
    simp only [List.mem_cons,kput_mem h'.2]
    constructor
    · rintro (rfl | ⟨hx,h1⟩ | ⟨rfl,h1⟩)
      · exact .inl ⟨.inl rfl,fun he=>absurd he e⟩
      · exact .inl ⟨.inr hx,h1⟩
      · exact .inr ⟨rfl,fun z hz he=>by
         rcases hz with rfl | hz
         · exact absurd he e
         · exact h1 z hz he⟩
    · rintro (⟨rfl | hx,h1⟩ | ⟨rfl,h1⟩)
      · exact .inl rfl
      · exact .inr (.inl ⟨hx,h1⟩)
      · exact .inr (.inr ⟨rfl,fun z hz he=>h1 z (.inr hz) he⟩)
structure Keeps (l m:List OP):Prop where
 dots:Dots m
 mem:∀ x,x∈m↔Min l x
theorem Min.snoc {l:List OP} {o x:OP} (hl:Gds l) (ho:Gd o) (hd:okO o=true) {m:List OP} (k:Keeps l m):Min (l++[o]) x↔(x∈m∧(dt x=dt o→¬ cm o x<0))∨(x=o∧∀ y∈m,dt y=dt o→cm o y<0):=by
 constructor
 · rintro ⟨h1,h2,h3⟩
   have low:∀ y∈l,okO y=true→dt y=dt x→cm x y≤0:=fun y hy=>h3 y (List.mem_append_left _ hy)
   have ho3:=h3 o (by simp) hd
   rcases List.mem_append.1 h1 with hx | hx
   · exact .inl ⟨(k.mem x).2 ⟨hx,h2,low⟩,fun e=>by have:=ho3 e.symm; have:=cm_neg x o; omega⟩
   · obtain rfl:x=o:=by simpa using hx
     by_cases hm:x∈m
     · exact .inl ⟨hm,fun _=>by rw [cm_self]; omega⟩
     · refine .inr ⟨rfl,fun y hy e=>?_⟩
       obtain ⟨q1,q2,q3⟩:=(k.mem y).1 hy
       have h4:=low y q1 q2 e
       rcases Int.lt_or_eq_of_le h4 with h5 | h5
       · exact h5
       · exact absurd (cm_eq ho (hl y q1) hd q2 h5 ▸ hy) hm
 · rintro (⟨hx,h1⟩ | ⟨rfl,h1⟩)
   · obtain ⟨q1,q2,q3⟩:=(k.mem x).1 hx
     refine ⟨List.mem_append_left _ q1,q2,fun y hy vy e=>?_⟩
     rcases List.mem_append.1 hy with hy | hy
     · exact q3 y hy vy e
     · obtain rfl:y=o:=by simpa using hy
       have:=h1 e.symm
       have:=cm_neg x y
       omega
   · refine ⟨by simp,hd,fun y hy vy e=>?_⟩
     rcases List.mem_append.1 hy with hy | hy
     ·
      have:∃ z∈m,dt z=dt x∧cm z y≤0:=by
       obtain ⟨z,hz1,hz2⟩:=least l (dt x) ⟨y,hy,vy,e⟩
       exact ⟨z,(k.mem z).2 hz1,hz2.1,hz2.2 y hy vy e⟩
      obtain ⟨z,hz,ez,hzy⟩:=this
      exact cm_le_trans (by have:=h1 z hz ez; omega) hzy
     · obtain rfl:y=x:=by simpa using hy
       rw [cm_self]; exact Int.le_refl _
where
 least:∀ (l:List OP) (d:Int × Int),(∃ y∈l,okO y=true∧dt y=d)→∃ z,Min l z∧dt z=d∧∀ y∈l,okO y=true→dt y=d→cm z y≤0
  | [],d,h=>by obtain ⟨y,hy,_⟩:=h; cases hy
  | a::l,d,h=>by
   by_cases hl:∃ y∈l,okO y=true∧dt y=d
   · obtain ⟨z,⟨z1,z2,z3⟩,ez,hz⟩:=least l d hl
     by_cases ha:okO a=true∧dt a=d∧cm a z<0
     · refine ⟨a,⟨List.mem_cons_self,ha.1,fun y hy vy e=>?_⟩,ha.2.1,fun y hy vy e=>?_⟩ <;>
       · rcases List.mem_cons.1 hy with rfl | hy
         · rw [cm_self]; exact Int.le_refl _
         · have:=hz y hy vy (by first | exact e | exact e.trans ha.2.1)
           exact cm_le_trans (by omega) this
     · have key:∀ y∈a::l,okO y=true→dt y=d→cm z y≤0:=fun y hy vy e=>by
        rcases List.mem_cons.1 hy with rfl | hy
        · by_cases hc:cm y z<0
          · exact absurd ⟨vy,e,hc⟩ ha
          · have:=cm_neg z y; omega
        · exact hz y hy vy e
       exact ⟨z,⟨List.mem_cons_of_mem _ z1,z2,fun y hy vy e=>key y hy vy (e.trans ez)⟩,ez,key⟩
   · obtain ⟨y,hy,vy,e⟩:=h
     rcases List.mem_cons.1 hy with rfl | hy
     · have key:∀ z∈y::l,okO z=true→dt z=d→cm y z≤0:=fun z hz vz ez=>by
        rcases List.mem_cons.1 hz with rfl | hz
        · rw [cm_self]; exact Int.le_refl _
        · exact absurd ⟨z,hz,vz,ez⟩ hl
       exact ⟨y,⟨List.mem_cons_self,vy,fun z hz vz ez=>key z hz vz (ez.trans e)⟩,e,key⟩
     · exact absurd ⟨y,hy,vy,e⟩ hl
theorem Min.skip {l:List OP} {o x:OP} (hd:okO o=false):Min (l++[o]) x↔Min l x:=by
 constructor
 · rintro ⟨h1,h2,h3⟩
   rcases List.mem_append.1 h1 with hx | hx
   · exact ⟨hx,h2,fun y hy=>h3 y (List.mem_append_left _ hy)⟩
   · obtain rfl:x=o:=by simpa using hx
     rw [h2] at hd; cases hd
 · rintro ⟨h1,h2,h3⟩
   refine ⟨List.mem_append_left _ h1,h2,fun y hy vy e=>?_⟩
   rcases List.mem_append.1 hy with hy | hy
   · exact h3 y hy vy e
   · obtain rfl:y=o:=by simpa using hy
     rw [vy] at hd; cases hd
theorem Keeps.add {l m:List OP} (k:Keeps l m) {o:OP} (hl:Gds l) (ho:Gd o):Keeps (l++[o]) (kadd m o):=by
 unfold kadd
 split
 · rename_i hd
   exact ⟨kput_nd k.dots,fun x=>(kput_mem k.dots x).trans (Min.snoc hl ho hd k).symm⟩
 · rename_i hd
   exact ⟨k.dots,fun x=>(k.mem x).trans (Min.skip (by simpa using hd)).symm⟩
theorem Keeps.known:∀ {r l m:List OP},Keeps l m→Gds (l++r)→Keeps (l++r) (known m r)
 | [],l,m,k,_=>by simpa [Mg.known] using k
 | o::r,l,m,k,h=>by
  have:=Keeps.known (r:=r) (k.add (fun x hx=>h x (List.mem_append_left _ hx)) (h o (by simp))) (by simpa using h)
  rw [List.append_assoc] at this
  exact this
theorem Keeps.nil:Keeps [] []:=⟨.nil,fun x=>⟨fun h=>(by cases h),fun h=>(by cases h.1)⟩⟩
theorem Keeps.canon {l m s:List OP} (k:Keeps l m) (hl:Gds l) (hp:s.Perm m) (hs:s.Pairwise fun a b=>¬ cm b a<0):Canon l s:=by
 refine ⟨?_,fun x=>(hp.mem_iff).trans (k.mem x)⟩
 have hnd:s.Pairwise fun a b=>dt a≠dt b:=(hp.pairwise_iff (fun {a b} h=>fun e=>h e.symm)).2 k.dots
 refine (hs.and hnd).imp_of_mem fun {a b} ha hb ⟨h1,h2⟩=>?_
 obtain ⟨a1,a2,_⟩:=(k.mem a).1 (hp.mem_iff.1 ha)
 obtain ⟨b1,b2,_⟩:=(k.mem b).1 (hp.mem_iff.1 hb)
 have h3:=cm_neg a b
 rcases Int.lt_or_eq_of_le (show cm a b≤0 by omega) with h4 | h4
 · exact h4
 · exact absurd (congrArg dt (cm_eq (hl a a1) (hl b b1) a2 b2 h4)) h2
def rhas (l:List OP) (o:OP):Bool:=l.any fun x=>decide (dt x=dt o) && decide (cm x o≤0)
def rput:List OP→OP→List OP
 | [],o=>[o]
 | x::l,o=>if dt x=dt o then rput l o else if cm o x<0 then o::x::l.filter (fun y=>decide (dt y≠dt o)) else x::rput l o
def rins (l:List OP) (o:OP):List OP:=if rhas l o=true then l else rput l o
def radd (m:List OP) (o:OP):List OP:=if okO o=true then rins m o else m
def runion (m l:List OP):List OP:=l.foldl radd m
theorem rput_mem:∀ {l:List OP} {o x:OP},x∈rput l o↔x=o∨(x∈l∧dt x≠dt o)
 | [],o,x=>by simp [rput]
 | y::l,o,x=>by
  unfold rput
  split
  · rename_i e
    rw [rput_mem]; simp only [List.mem_cons]; grind
  · rename_i e
    split
    · simp only [List.mem_cons,List.mem_filter,decide_eq_true_eq]; grind
    · simp only [List.mem_cons,rput_mem (l:=l)]; grind
theorem rput_sorted:∀ {l:List OP} {o:OP},l.Pairwise (fun a b=>cm a b<0)→Gds l→Gd o→(∀ x∈l,okO x=true)→okO o=true→(rput l o).Pairwise fun a b=>cm a b<0
 | [],o,_,_,_,_,_=>by simp [rput]
 | y::l,o,h,g,go,v,vo=>by
  have h':=List.pairwise_cons.1 h
  have g':Gds l:=fun x hx=>g x (List.mem_cons_of_mem _ hx)
  have v':∀ x∈l,okO x=true:=fun x hx=>v x (List.mem_cons_of_mem _ hx)
  unfold rput
  split
  · exact rput_sorted h'.2 g' go v' vo
  · rename_i e
    split
    · rename_i hc
      refine List.pairwise_cons.2 ⟨fun z hz=>?_,List.pairwise_cons.2 ⟨fun z hz=>h'.1 z (List.mem_filter.1 hz).1,h'.2.filter _⟩⟩
      rcases List.mem_cons.1 hz with rfl | hz
      · exact hc
      · exact cm_trans hc (h'.1 z (List.mem_filter.1 hz).1)
    · rename_i hc
      refine List.pairwise_cons.2 ⟨fun z hz=>?_,rput_sorted h'.2 g' go v' vo⟩
      rcases rput_mem.1 hz with rfl | ⟨hz,_⟩
      · have h1:=cm_neg y z
        rcases Int.lt_or_eq_of_le (show cm y z≤0 by omega) with h4 | h4
        · exact h4
        · exact absurd (congrArg dt (cm_eq (g y List.mem_cons_self) go (v y List.mem_cons_self) vo h4)) e
      · exact h'.1 z hz
theorem Canon.keeps {l m:List OP} (k:Canon l m) (hl:Gds l):Keeps l m:=by
 refine ⟨?_,k.mem⟩
 refine k.sorted.imp_of_mem fun {a b} ha hb h e=>?_
 obtain ⟨a1,a2,a3⟩:=(k.mem a).1 ha
 obtain ⟨b1,b2,b3⟩:=(k.mem b).1 hb
 have:=b3 a a1 a2 e
 have:=cm_neg a b
 omega
theorem Canon.add {l m:List OP} (k:Canon l m) {o:OP} (hl:Gds l) (ho:Gd o):Canon (l++[o]) (radd m o):=by
 have kk:=k.keeps hl
 unfold radd
 split
 · rename_i hd
   have hin:∀ x∈m,Gd x∧okO x=true:=fun x hx=>let ⟨a,b,_⟩:=(k.mem x).1 hx; ⟨hl x a,b⟩
   unfold rins
   split
   · rename_i hh
     obtain ⟨z,hz,h⟩:=List.any_eq_true.1 hh
     simp only [Bool.and_eq_true,decide_eq_true_eq] at h
     refine ⟨k.sorted,fun x=>Iff.trans ?_ (Min.snoc hl ho hd kk).symm⟩
     constructor
     · intro hx
       refine .inl ⟨hx,fun e hc=>?_⟩
       have:x=z:=by
        have:=kk.dots
        by_cases hxz:x=z
        · exact hxz
        · exfalso
          rcases List.mem_iff_getElem.1 hx with ⟨i,hi,rfl⟩
          rcases List.mem_iff_getElem.1 hz with ⟨j,hj,rfl⟩
          have hp:=List.pairwise_iff_getElem.1 this
          rcases Nat.lt_trichotomy i j with hij | hij | hij
          · exact hp i j hi hj hij (e.trans h.1.symm)
          · subst hij; exact hxz rfl
          · exact hp j i hj hi hij (h.1.trans e.symm)
       subst this
       have:=cm_neg o x
       omega
     · rintro (⟨hx,_⟩ | ⟨rfl,h1⟩)
       · exact hx
       · have:=h1 z hz h.1
         have:=cm_neg x z
         omega
   · rename_i hh
     have hno:∀ z∈m,dt z=dt o→cm o z<0:=fun z hz e=>by
      by_cases hc:cm z o≤0
      · exact absurd (List.any_eq_true.2 ⟨z,hz,by simp [e,hc]⟩) hh
      · have:=cm_neg o z; omega
     refine ⟨rput_sorted k.sorted (fun x hx=>(hin x hx).1) ho (fun x hx=>(hin x hx).2) hd,fun x=>Iff.trans ?_ (Min.snoc hl ho hd kk).symm⟩
     rw [rput_mem]
     constructor
     · rintro (rfl | ⟨hx,e⟩)
       · exact .inr ⟨rfl,hno⟩
       · exact .inl ⟨hx,fun e'=>absurd e' e⟩
     · rintro (⟨hx,h1⟩ | ⟨rfl,_⟩)
       · exact .inr ⟨hx,fun e=>h1 e (hno x hx e)⟩
       · exact .inl rfl
 · rename_i hd
   exact ⟨k.sorted,fun x=>(k.mem x).trans (Min.skip (by simpa using hd)).symm⟩
theorem Canon.union:∀ {r l m:List OP},Canon l m→Gds (l++r)→Canon (l++r) (runion m r)
 | [],l,m,k,_=>by simpa [runion] using k
 | o::r,l,m,k,h=>by
  have:=Canon.union (r:=r) (k.add (fun x hx=>h x (List.mem_append_left _ hx)) (h o (by simp))) (by simpa using h)
  rw [List.append_assoc] at this
  exact this
theorem Canon.nil:Canon [] []:=⟨.nil,fun x=>⟨fun h=>(by cases h),fun h=>(by cases h.1)⟩⟩
def uni (l:List OP):List OP:=runion [] l
theorem uni_canon {l:List OP} (h:Gds l):Canon l (uni l):=by
 have:=Canon.nil.union (r:=l) (by simpa using h)
 simpa [uni] using this
theorem sort_uni {l s:List OP} (h:Gds l) (hp:s.Perm (known [] l)) (hs:s.Pairwise fun a b=>¬ cm b a<0):s=uni l:=by
 have k:=Keeps.nil.known (r:=l) (by simpa using h)
 rw [List.nil_append] at k
 exact (k.canon h hp hs).one (uni_canon h)
end Go.Mg


namespace Go.Mg
open Go Go.Am Go.Proofs Go.Seat Go.Vec Go.Cdc Go.Ops Go.Sort
abbrev Gv (o:OP):Prop:=Gd o∧okO o=true
abbrev Gvs (l:List OP):Prop:=∀ o∈l,Gv o
theorem compare_c (a b:OP) (ha:Gv a) (hb:Gv b):Cq 65 [op a,op b] (int (cm a b)):=by
 have h1:=enc_c a (B:=20000) (by decide) ha.1.1 ha.1.2
 have h2:=enc_c b (B:=20000) (by decide) hb.1.1 hb.1.2
 have k1:chkOE a=0:=of_decide_eq_true ha.2
 have k2:chkOE b=0:=of_decide_eq_true hb.2
 have e1:encO a=encB (opV a):=by unfold encO; rw [if_pos k1]
 have e2:encO b=encB (opV b):=by unfold encO; rw [if_pos k2]
 rw [e1] at h1
 rw [e2] at h2
 exact cmp_c a b _ _ _ _ h1 h2
noncomputable def fns:Func:=(P.funcs[63]?).getD default
noncomputable def bds:Code:=bodyOf P 63
noncomputable def s0:Code:=Code.hd bds
noncomputable def ops1:Array Oper:=opsOf (Code.hd (Code.tl bds))
noncomputable def op1 (i:Nat):Oper:=ops1.toList.getD i default
noncomputable def s2:Code:=Code.hd (Code.tl (Code.tl bds))
noncomputable def ops2:Array Oper:=opsOf s2
noncomputable def op2 (i:Nat):Oper:=ops2.toList.getD i default
noncomputable def sE:Code:=Code.tl (Code.tl (Code.tl bds))
abbrev cmpF:AV:=fnV 65
section
variable (es:List (Value × AV))
theorem s_0:PieceC P G none 1 s0 ⟨[vsV,cmpF]++List.replicate (fns.ntmps - 2) (.lit undef),[.box [.md true es]],[]⟩ ⟨slots 12 [(0,vsV),(1,cmpF)],[.box [.md true es]],[]⟩:=piece_of [] (others 12 [0,1]) 1 (by kernel_rfl)
theorem s_1:runD P G none ops1 0 [op1 0] (slots 12 [(0,vsV),(1,cmpF)]) [.box [.md true es]] [] []=some (.normal,slots 12 [(0,vsV),(1,cmpF),(6,vsV)],[.box [.md true es]],[],[],[]):=by kernel_rfl
theorem s_2 (H:List AObj) (x:AV):runD P G none ops1 2 [op1 2] (slots 12 [(0,vsV),(1,cmpF),(6,vsV),(7,x)]) H [] []=some (.normal,slots 12 [(0,vsV),(1,cmpF),(5,x),(6,vsV),(7,x)],H,[],[],[]):=by kernel_rfl
theorem s_n (h:Cq 94 [nilS,cmpF] (.tup [])):PieceC P G none 1 s2 ⟨slots 12 [(0,vsV),(1,cmpF),(5,nilS),(6,vsV),(7,nilS)],[.box [.md true es]],[]⟩ ⟨slots 12 [(5,nilS)],[.box [.md true es]],[]⟩ :=
 piece_of [ko (.call [] (.ret (.tup [])) []),kp h] (others 12 [5]) 1 (by kernel_rfl)
theorem s_3 (H:List AObj) (x:AV):runD P G none ops2 0 [op2 0,op2 1] (slots 12 [(0,vsV),(1,cmpF),(5,x),(6,vsV),(7,x)]) H [] []=some (.normal,slots 12 [(0,vsV),(1,cmpF),(5,x),(6,vsV),(7,x),(8,x),(9,cmpF)],H,[],[],[]):=by kernel_rfl
theorem s_f0:tailF P G 1 fns sE ⟨slots 12 [(5,nilS)],[.box [.md true es]],[]⟩ []=some (.ret nilS,[.box [.md true es]],[]):=by kernel_rfl
theorem s_f1 (g n:Nat) (x:AV) (xs:List OP):tailF P G 1 fns sE ⟨slots 12 [(0,vsV),(1,cmpF),(5,.own 7 g 0 n),(6,vsV),(7,.own 7 g 0 n),(8,.own 7 g 0 n),(9,cmpF),(10,x)],[.box [.md true es],.gone,.gone,.gone,.gone,.gone,.gone,.arr g 17 false (ocs xs)],[]⟩ [] =
 some (.ret (.own 7 g 0 n),[.box [.md true es],.gone,.gone,.gone,.gone,.gone,.gone,.arr g 17 false (ocs xs)],[]):=by kernel_rfl
end
theorem cm_swo (V:View):SWO (ltOf fun a b:El V opc 17 Gv=>cm a.x b.x) where
 irrefl a:=by
  refine decide_eq_false ?_
  show ¬ cm a.x a.x<0
  rw [cm_self]
  omega
 trans a b c h k:=by
  unfold ltOf at *
  exact decide_eq_true (cm_trans (of_decide_eq_true h) (of_decide_eq_true k))
 ntrans a b c h k:=by
  unfold ltOf at *
  have h:¬ cm a.x b.x<0:=of_decide_eq_false h
  have k:¬ cm b.x c.x<0:=of_decide_eq_false k
  refine decide_eq_false ?_
  show ¬ cm a.x c.x<0
  have h1:=cm_neg a.x b.x
  have h2:=cm_neg b.x c.x
  have h3:=cm_neg a.x c.x
  have:=cm_le_trans (a:=c.x) (b:=b.x) (c:=a.x) (by omega) (by omega)
  omega
theorem sorted_c (os u:List OP) (hos:os.length≤1000000) (hg:Gvs os) (hu:∀ s:List OP,s.Perm os→s.Pairwise (fun a b=>¬ cm b a<0)→s=u) (hnil:Cq 94 [nilS,cmpF] (.tup []))
 (hcmp:∀ x y,Gv x→Gv y→Cq 65 [op x,op y] (int (cm x y))):CallC P G 63 [vsV,cmpF] [.box [.md true (os.map en)]] (.ret (cO u)) (dH (os.map en) u):=by
 have hfn:P.funcs[63]? = some fns:=by kernel_rfl
 have hb:fns.body=some (.seq s0 (.seq (.region 1 ops1 false) (.seq s2 sE))):=by kernel_rfl
 have hfc:P.funcs[93]? = some fnc:=by kernel_rfl
 refine callC_sem hfn hb fun V a hH hG hok=>?_
 have h0:V.H.length=1:=by rw [hH]; rfl
 refine PieceC.seq (s_0 (os.map en)) h0 (Step.refl V) hG hok fun V1 a1 st1 g1 k1=>?_
 refine Go.wpIn_seq ?_
 refine wpIn_region ?_
 refine runD_pre (os1:=[op1 0]) (os2:=[op1 1,op1 2]) (i:=0) (orc:=[]) (orc':=[]) (ps:=[]) (r:=none) (s_1 (os.map en)) trivial (by kernel_rfl) g1 k1.H k1.env k1.defs fun V2 a2 st2 g2 hh2 e2 d2=>?_
 have hrest:(List.range ops1.size).drop (0+[op1 0].length)=1::(List.range ops1.size).drop 2:=by kernel_rfl
 rw [hrest]
 have hC:=collect_f os hos
 have hargs:(#[Operand.tmp 6]:Array Operand).toList.map (evA G (slots 12 [(0,vsV),(1,cmpF),(6,vsV)]))=[vsV]:=by kernel_rfl
 rw [← hargs] at hC
 refine callF_op (o:=op1 1) (ts:=argT (op1 1)) (by kernel_rfl) (by kernel_rfl) (by kernel_rfl) hfc (by kernel_rfl) hC g2 hh2 e2 d2 (fun out H' ⟨v,_,h,_⟩=>⟨_,h⟩) ?_
 rintro x H' V3 a3 ⟨v,hp,hx,rfl⟩ st3 g3 hh3 e3 d3
 injection hx with hx
 subst hx
 have e3:EnvOk V3 (slots 12 [(0,vsV),(1,cmpF),(6,vsV),(7,cO v)]) a3:=e3
 refine runD_sound (s_2 (dH (os.map en) v) (cO v)) trivial (by kernel_rfl) g3 hh3 e3 d3 (fun _ V4 a4 st4 g4 hh4 e4 d4=>?_) fun x hx=>by cases hx
 show (Code.seq s2 sE).wpIn (fz none) 0 P _ a4 V4.w
 have hs4:Step V V4:=((st1.trans st2).trans st3).trans st4
 cases v with
 | nil =>
  have hu0:u=[]:=(hu [] hp .nil).symm
  subst hu0
  exact PieceC.seq (s_n (os.map en) hnil) h0 hs4 g4 ⟨e4,hh4,d4⟩ fun V5 a5 st5 g5 k5=>tail_run [] (s_f0 (os.map en)) h0 st5 g5 k5
 | cons o v =>
  have hs2:s2 = .region 2 ops2 false:=by kernel_rfl
  rw [hs2]
  refine Go.wpIn_seq ?_
  refine wpIn_region ?_
  refine runD_pre (os1:=[op2 0,op2 1]) (os2:=[op2 2]) (i:=0) (orc:=[]) (orc':=[]) (ps:=[]) (r:=none) (s_3 _ (cO (o::v))) trivial (by kernel_rfl) g4 hh4 e4 d4 fun V5 a5 st5 g5 hh5 e5 d5=>?_
  have hrest2:(List.range ops2.size).drop (0+[op2 0,op2 1].length)=2::(List.range ops2.size).drop 3:=by kernel_rfl
  rw [hrest2]
  have h9:a5.eval (.tmp 9) = .func (.func 65) #[] #[]:=rep_lit (e5.get 9)
  have hgv:Gvs (o::v):=fun x hx=>hg x (hp.mem_iff.1 hx)
  have hH5:V5.H[7]? = some (.arr v.length 17 false ((o::v).map opc)):=by rw [hh5]; rfl
  have hvl:(o::v).length≤1000000:=by rw [hp.length_eq]; exact hos
  have hsrt:=sort_own (V:=V5) Tryz.sortOp Tryz.isAgg55 Tryz.sizeOf55 (oc:=opc) (k:=17) (Q:=Gv) (cf:=cm) (fun _=>rfl) (fun _=>rfl) (cm_swo V5) (f:=65) (enters_of Tryz.func65 (by kernel_rfl) rfl) hcmp g5 hH5 (by simp) (by omega) hgv (e5.get 8:Rep V5 (.own 7 v.length 0 (o::v).length) (a5.eval (.tmp 8)))
  refine callV_wp (o:=op2 2) (g:=.func 94) (f:=94) (us:=#[]) (vs:=#[]) (args:=#[.tmp 8,.tmp 9]) (ts:=argT (op2 2)) (by kernel_rfl) (by kernel_rfl) (by kernel_rfl) Tryz.func94 (by kernel_rfl) rfl (by
   have e:(#[]++#[Operand.tmp 8,.tmp 9].map a5.eval++#[]:Array Value)=#[a5.eval (.tmp 8),.func (.func 65) #[] #[]]:=by simp [h9]
   rw [e]
   exact callsIn_wide.2 hsrt) ?_
  rintro e w' ⟨rfl,V6,xs',rfl,st6,g6,hh6,hp6,hs6⟩
  refine ⟨_,rfl,?_⟩
  have hrest3:(List.range ops2.size).drop 3=[]:=by kernel_rfl
  rw [hrest3]
  show sE.wpIn (fz none) 0 P _ (a5.put (op2 2).dst (.tuple #[])) V6.w
  have hux:xs'=u:=hu xs' (hp6.trans hp) hs6
  subst hux
  have e6:EnvOk V6 (slots 12 [(0,vsV),(1,cmpF),(5,cO (o::v)),(6,vsV),(7,cO (o::v)),(8,cO (o::v)),(9,cmpF),(10,.tup [])]) (a5.put (op2 2).dst (.tuple #[])) :=
   (e5.step st6).put (op2 2).dst (x:=.tup []) (.pure _ _ (.tup [] [] rfl fun j hj=>absurd hj (by simp)))
  have hl6:=hp6.length_eq
  have hH6:V6.H=[.box [.md true (os.map en)],.gone,.gone,.gone,.gone,.gone,.gone,.arr v.length 17 false (ocs xs')]:=by rw [hh6,hh5]; rfl
  have ht:=tail_run (P:=P) (G:=G) [] (s_f1 (os.map en) v.length (o::v).length (.tup []) xs') h0 ((hs4.trans st5).trans st6) g6 ⟨e6,hH6,by rw [put_def]; exact d5.step st6⟩
  cases xs' with
  | nil=>simp at hl6
  | cons o' v' =>
   have hl7:v'.length=v.length:=by simpa using hl6
   have hc:cO (o'::v') = .own 7 v.length 0 (o::v).length:=by
    show AV.own 7 v'.length 0 (o'::v').length=_
    rw [hl6,hl7]
   have hd:dH (os.map en) (o'::v')=[.box [.md true (os.map en)],.gone,.gone,.gone,.gone,.gone,.gone,.arr v.length 17 false (ocs (o'::v'))]:=by
    show [AObj.box [.md true (os.map en)],.gone,.gone,.gone,.gone,.gone,.gone,.arr v'.length 17 false (ocs (o'::v'))]=_
    rw [hl7]
   rw [hc,hd]
   exact ht
end Go.Mg


namespace Go.Mg
open Go Go.Am Go.Proofs Go.Seat Go.Vec Go.Cdc Go.Ops
theorem bl64_w  (h:True):Cq 143 [.lit (Value.int IntKind.u64 0)] (int 0):=by
 have _:=h
 exact callC_of [kY,kY,kY]
theorem blen_w  (h:True):Cq 104 [.lit (Value.int IntKind.u64 0)] (int 0):=by
 have _:=h
 exact callC_of [kY,kc [] (@bl64_w (trivial))]
theorem ins0_l (f:Nat) (h:True):Rq 0 162 0 (sM 53 [(0,nilS),(1,int 0),(2,int 0),(3,fnV f),(8,int 1),(10,int 0),(11,int 1)] []) (AEx.exit 0) (sM 53 [] []):=by
 have _:=h
 exact loop_exit [kY] (others 53 []) 0
theorem ins0_w (f:Nat) (h:True):Cq 162 [nilS,int 0,int 0,fnV f] (.tup []):=by
 have _:=h
 exact callC_of [kl (rG [(4,4),(9,1),(12,41)]) 0 (@ins0_l (f) (trivial))]
theorem pdq0_l (f:Nat) (h:True):Rq 0 124 0 (sM 148 [(0,nilS),(1,int 0),(2,int 0),(3,int 0),(4,fnV f),(10,Am.bool true),(11,Am.bool true)] []) AEx.ret (sM 148 [] []):=by
 have _:=h
 exact loop_exit [kO,kc [] (@ins0_w (f) (trivial))] (others 148 []) 0
theorem pdq0_w (f:Nat) (h:True):Cq 124 [nilS,int 0,int 0,int 0,fnV f] (.tup []):=by
 have _:=h
 exact callC_of [kl (rG [(5,5),(12,136)]) 0 (@pdq0_l (f) (trivial))]
theorem sortnil_w (f:Nat) (h:True):Cq 94 [nilS,fnV f] (.tup []):=by
 have _:=h
 exact callC_of [kc [] (@blen_w (trivial)),kc [] (@pdq0_w (f) (trivial))]
end Go.Mg


namespace Go.Mg
open Go Go.Am Go.Proofs Go.Seat Go.Vec Go.Cdc Go.Ops
theorem sorted_w0 (es:List (Value × AV)) (hs:CallC P G 63 [vsV,cmpF] [.box [.md true es]] (.ret nilS) [.box [.md true es]]):Cq 35 [.md true es] nilS :=
 callC_of [kc [] (@values_w (es) (trivial)),kc [0] (@hs)]
theorem sorted_w1 (es:List (Value × AV)) (g n:Nat) (u:List OP) (hs:CallC P G 63 [vsV,cmpF] [.box [.md true es]] (.ret (.own 7 g 0 n)) [.box [.md true es],.gone,.gone,.gone,.gone,.gone,.gone,.arr g 17 false (ocs u)]) :
 CallC P G 35 [.md true es] [] (.ret (.own 7 g 0 n)) [.box [.md true es],.gone,.gone,.gone,.gone,.gone,.gone,.arr g 17 false (ocs u)] :=
 callC_of [kc [] (@values_w (es) (trivial)),kc [0] (@hs),kp (show ∀ x∈ocs u,AV.idsInL [] x=true from ocs_ids u)]
end Go.Mg
