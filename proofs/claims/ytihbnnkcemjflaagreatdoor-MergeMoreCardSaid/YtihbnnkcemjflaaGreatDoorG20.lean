import Derived.Test.YtihbnnkcemjflaaGreatDoorG19
import Derived.KernelRfl
set_option maxRecDepth 100000
set_option linter.unusedSimpArgs false
set_option linter.unusedVariables false

namespace Go.Mg
open Go Go.Am Go.Proofs Go.Seat Go.Vec Go.Cdc Go.Ops Go.Sort
abbrev Gv (o:OP):Prop:=Gd o∧okO o=true
abbrev Gvs (l:List OP):Prop:=∀ o∈l,Gv o
theorem compare_c (a b:OP) (ha:Gv a) (hb:Gv b):Cq 65 [op a,op b] (int (cm a b)):=by
 have h1:=enc_c a (B:=20000) (by decide) ha.1.1 ha.1.2
 have h2:=enc_c b (B:=20000) (by decide) hb.1.1 hb.1.2
 have k1:chkOE a=0:=of_decide_eq_true ha.2
 have k2:chkOE b=0:=of_decide_eq_true hb.2
 have e1:encO a=encB (opV a):=by unfold encO; rw [if_pos k1]
 have e2:encO b=encB (opV b):=by unfold encO; rw [if_pos k2]
 rw [e1] at h1
 rw [e2] at h2
 exact cmp_c a b _ _ _ _ h1 h2
noncomputable def fns:Func:=(P.funcs[63]?).getD default
noncomputable def bds:Code:=bodyOf P 63
noncomputable def s0:Code:=Code.hd bds
noncomputable def ops1:Array Oper:=opsOf (Code.hd (Code.tl bds))
noncomputable def op1 (i:Nat):Oper:=ops1.toList.getD i default
noncomputable def s2:Code:=Code.hd (Code.tl (Code.tl bds))
noncomputable def ops2:Array Oper:=opsOf s2
noncomputable def op2 (i:Nat):Oper:=ops2.toList.getD i default
noncomputable def sE:Code:=Code.tl (Code.tl (Code.tl bds))
abbrev cmpF:AV:=fnV 65
section
variable (es:List (Value × AV))
theorem s_0:PieceC P G none 1 s0 ⟨[vsV,cmpF]++List.replicate (fns.ntmps - 2) (.lit undef),[.box [.md true es]],[]⟩ ⟨slots 12 [(0,vsV),(1,cmpF)],[.box [.md true es]],[]⟩:=piece_of [] (others 12 [0,1]) 1 (by kernel_rfl)
theorem s_1:runD P G none ops1 0 [op1 0] (slots 12 [(0,vsV),(1,cmpF)]) [.box [.md true es]] [] []=some (.normal,slots 12 [(0,vsV),(1,cmpF),(6,vsV)],[.box [.md true es]],[],[],[]):=by kernel_rfl
theorem s_2 (H:List AObj) (x:AV):runD P G none ops1 2 [op1 2] (slots 12 [(0,vsV),(1,cmpF),(6,vsV),(7,x)]) H [] []=some (.normal,slots 12 [(0,vsV),(1,cmpF),(5,x),(6,vsV),(7,x)],H,[],[],[]):=by kernel_rfl
theorem s_n (h:Cq 94 [nilS,cmpF] (.tup [])):PieceC P G none 1 s2 ⟨slots 12 [(0,vsV),(1,cmpF),(5,nilS),(6,vsV),(7,nilS)],[.box [.md true es]],[]⟩ ⟨slots 12 [(5,nilS)],[.box [.md true es]],[]⟩ :=
 piece_of [ko (.call [] (.ret (.tup [])) []),kp h] (others 12 [5]) 1 (by kernel_rfl)
theorem s_3 (H:List AObj) (x:AV):runD P G none ops2 0 [op2 0,op2 1] (slots 12 [(0,vsV),(1,cmpF),(5,x),(6,vsV),(7,x)]) H [] []=some (.normal,slots 12 [(0,vsV),(1,cmpF),(5,x),(6,vsV),(7,x),(8,x),(9,cmpF)],H,[],[],[]):=by kernel_rfl
theorem s_f0:tailF P G 1 fns sE ⟨slots 12 [(5,nilS)],[.box [.md true es]],[]⟩ []=some (.ret nilS,[.box [.md true es]],[]):=by kernel_rfl
theorem s_f1 (g n:Nat) (x:AV) (xs:List OP):tailF P G 1 fns sE ⟨slots 12 [(0,vsV),(1,cmpF),(5,.own 7 g 0 n),(6,vsV),(7,.own 7 g 0 n),(8,.own 7 g 0 n),(9,cmpF),(10,x)],[.box [.md true es],.gone,.gone,.gone,.gone,.gone,.gone,.arr g 17 false (ocs xs)],[]⟩ [] =
 some (.ret (.own 7 g 0 n),[.box [.md true es],.gone,.gone,.gone,.gone,.gone,.gone,.arr g 17 false (ocs xs)],[]):=by kernel_rfl
end
theorem cm_swo (V:View):SWO (ltOf fun a b:El V opc 17 Gv=>cm a.x b.x) where
 irrefl a:=by
  refine decide_eq_false ?_
  show ¬ cm a.x a.x<0
  rw [cm_self]
  omega
 trans a b c h k:=by
  unfold ltOf at *
  exact decide_eq_true (cm_trans (of_decide_eq_true h) (of_decide_eq_true k))
 ntrans a b c h k:=by
  unfold ltOf at *
  have h:¬ cm a.x b.x<0:=of_decide_eq_false h
  have k:¬ cm b.x c.x<0:=of_decide_eq_false k
  refine decide_eq_false ?_
  show ¬ cm a.x c.x<0
  have h1:=cm_neg a.x b.x
  have h2:=cm_neg b.x c.x
  have h3:=cm_neg a.x c.x
  have:=cm_le_trans (a:=c.x) (b:=b.x) (c:=a.x) (by omega) (by omega)
  omega
theorem sorted_c (os u:List OP) (hos:os.length≤1000000) (hg:Gvs os) (hu:∀ s:List OP,s.Perm os→s.Pairwise (fun a b=>¬ cm b a<0)→s=u) (hnil:Cq 94 [nilS,cmpF] (.tup []))
 (hcmp:∀ x y,Gv x→Gv y→Cq 65 [op x,op y] (int (cm x y))):CallC P G 63 [vsV,cmpF] [.box [.md true (os.map en)]] (.ret (cO u)) (dH (os.map en) u):=by
 have hfn:P.funcs[63]? = some fns:=by kernel_rfl
 have hb:fns.body=some (.seq s0 (.seq (.region 1 ops1 false) (.seq s2 sE))):=by kernel_rfl
 have hfc:P.funcs[93]? = some fnc:=by kernel_rfl
 refine callC_sem hfn hb fun V a hH hG hok=>?_
 have h0:V.H.length=1:=by rw [hH]; rfl
 refine PieceC.seq (s_0 (os.map en)) h0 (Step.refl V) hG hok fun V1 a1 st1 g1 k1=>?_
 refine Go.wpIn_seq ?_
 refine wpIn_region ?_
 refine runD_pre (os1:=[op1 0]) (os2:=[op1 1,op1 2]) (i:=0) (orc:=[]) (orc':=[]) (ps:=[]) (r:=none) (s_1 (os.map en)) trivial (by kernel_rfl) g1 k1.H k1.env k1.defs fun V2 a2 st2 g2 hh2 e2 d2=>?_
 have hrest:(List.range ops1.size).drop (0+[op1 0].length)=1::(List.range ops1.size).drop 2:=by kernel_rfl
 rw [hrest]
 have hC:=collect_f os hos
 have hargs:(#[Operand.tmp 6]:Array Operand).toList.map (evA G (slots 12 [(0,vsV),(1,cmpF),(6,vsV)]))=[vsV]:=by kernel_rfl
 rw [← hargs] at hC
 refine callF_op (o:=op1 1) (ts:=argT (op1 1)) (by kernel_rfl) (by kernel_rfl) (by kernel_rfl) hfc (by kernel_rfl) hC g2 hh2 e2 d2 (fun out H' ⟨v,_,h,_⟩=>⟨_,h⟩) ?_
 rintro x H' V3 a3 ⟨v,hp,hx,rfl⟩ st3 g3 hh3 e3 d3
 injection hx with hx
 subst hx
 have e3:EnvOk V3 (slots 12 [(0,vsV),(1,cmpF),(6,vsV),(7,cO v)]) a3:=e3
 refine runD_sound (s_2 (dH (os.map en) v) (cO v)) trivial (by kernel_rfl) g3 hh3 e3 d3 (fun _ V4 a4 st4 g4 hh4 e4 d4=>?_) fun x hx=>by cases hx
 show (Code.seq s2 sE).wpIn (fz none) 0 P _ a4 V4.w
 have hs4:Step V V4:=((st1.trans st2).trans st3).trans st4
 cases v with
 | nil =>
  have hu0:u=[]:=(hu [] hp .nil).symm
  subst hu0
  exact PieceC.seq (s_n (os.map en) hnil) h0 hs4 g4 ⟨e4,hh4,d4⟩ fun V5 a5 st5 g5 k5=>tail_run [] (s_f0 (os.map en)) h0 st5 g5 k5
 | cons o v =>
  have hs2:s2 = .region 2 ops2 false:=by kernel_rfl
  rw [hs2]
  refine Go.wpIn_seq ?_
  refine wpIn_region ?_
  refine runD_pre (os1:=[op2 0,op2 1]) (os2:=[op2 2]) (i:=0) (orc:=[]) (orc':=[]) (ps:=[]) (r:=none) (s_3 _ (cO (o::v))) trivial (by kernel_rfl) g4 hh4 e4 d4 fun V5 a5 st5 g5 hh5 e5 d5=>?_
  have hrest2:(List.range ops2.size).drop (0+[op2 0,op2 1].length)=2::(List.range ops2.size).drop 3:=by kernel_rfl
  rw [hrest2]
  have h9:a5.eval (.tmp 9) = .func (.func 65) #[] #[]:=rep_lit (e5.get 9)
  have hgv:Gvs (o::v):=fun x hx=>hg x (hp.mem_iff.1 hx)
  have hH5:V5.H[7]? = some (.arr v.length 17 false ((o::v).map opc)):=by rw [hh5]; rfl
  have hvl:(o::v).length≤1000000:=by rw [hp.length_eq]; exact hos
  have hsrt:=sort_own (V:=V5) Tryz.sortOp Tryz.isAgg55 Tryz.sizeOf55 (oc:=opc) (k:=17) (Q:=Gv) (cf:=cm) (fun _=>rfl) (fun _=>rfl) (cm_swo V5) (f:=65) (enters_of Tryz.func65 (by kernel_rfl) rfl) hcmp g5 hH5 (by simp) (by omega) hgv (e5.get 8:Rep V5 (.own 7 v.length 0 (o::v).length) (a5.eval (.tmp 8)))
  refine callV_wp (o:=op2 2) (g:=.func 94) (f:=94) (us:=#[]) (vs:=#[]) (args:=#[.tmp 8,.tmp 9]) (ts:=argT (op2 2)) (by kernel_rfl) (by kernel_rfl) (by kernel_rfl) Tryz.func94 (by kernel_rfl) rfl (by
   have e:(#[]++#[Operand.tmp 8,.tmp 9].map a5.eval++#[]:Array Value)=#[a5.eval (.tmp 8),.func (.func 65) #[] #[]]:=by simp [h9]
   rw [e]
   exact callsIn_wide.2 hsrt) ?_
  rintro e w' ⟨rfl,V6,xs',rfl,st6,g6,hh6,hp6,hs6⟩
  refine ⟨_,rfl,?_⟩
  have hrest3:(List.range ops2.size).drop 3=[]:=by kernel_rfl
  rw [hrest3]
  show sE.wpIn (fz none) 0 P _ (a5.put (op2 2).dst (.tuple #[])) V6.w
  have hux:xs'=u:=hu xs' (hp6.trans hp) hs6
  subst hux
  have e6:EnvOk V6 (slots 12 [(0,vsV),(1,cmpF),(5,cO (o::v)),(6,vsV),(7,cO (o::v)),(8,cO (o::v)),(9,cmpF),(10,.tup [])]) (a5.put (op2 2).dst (.tuple #[])) :=
   (e5.step st6).put (op2 2).dst (x:=.tup []) (.pure _ _ (.tup [] [] rfl fun j hj=>absurd hj (by simp)))
  have hl6:=hp6.length_eq
  have hH6:V6.H=[.box [.md true (os.map en)],.gone,.gone,.gone,.gone,.gone,.gone,.arr v.length 17 false (ocs xs')]:=by rw [hh6,hh5]; rfl
  have ht:=tail_run (P:=P) (G:=G) [] (s_f1 (os.map en) v.length (o::v).length (.tup []) xs') h0 ((hs4.trans st5).trans st6) g6 ⟨e6,hH6,by rw [put_def]; exact d5.step st6⟩
  cases xs' with
  | nil=>simp at hl6
  | cons o' v' =>
   have hl7:v'.length=v.length:=by simpa using hl6
   have hc:cO (o'::v') = .own 7 v.length 0 (o::v).length:=by
    show AV.own 7 v'.length 0 (o'::v').length=_
    rw [hl6,hl7]
   have hd:dH (os.map en) (o'::v')=[.box [.md true (os.map en)],.gone,.gone,.gone,.gone,.gone,.gone,.arr v.length 17 false (ocs (o'::v'))]:=by
    show [AObj.box [.md true (os.map en)],.gone,.gone,.gone,.gone,.gone,.gone,.arr v'.length 17 false (ocs (o'::v'))]=_
    rw [hl7]
   rw [hc,hd]
   exact ht
end Go.Mg


namespace Go.Mg
open Go Go.Am Go.Proofs Go.Seat Go.Vec Go.Cdc Go.Ops
theorem bl64_w  (h:True):Cq 143 [.lit (Value.int IntKind.u64 0)] (int 0):=by
 have _:=h
 exact callC_of [kY,kY,kY]
theorem blen_w  (h:True):Cq 104 [.lit (Value.int IntKind.u64 0)] (int 0):=by
 have _:=h
 exact callC_of [kY,kc [] (@bl64_w (trivial))]
theorem ins0_l (f:Nat) (h:True):Rq 0 162 0 (sM 53 [(0,nilS),(1,int 0),(2,int 0),(3,fnV f),(8,int 1),(10,int 0),(11,int 1)] []) (AEx.exit 0) (sM 53 [] []):=by
 have _:=h
 exact loop_exit [kY] (others 53 []) 0
theorem ins0_w (f:Nat) (h:True):Cq 162 [nilS,int 0,int 0,fnV f] (.tup []):=by
 have _:=h
 exact callC_of [kl (rG [(4,4),(9,1),(12,41)]) 0 (@ins0_l (f) (trivial))]
theorem pdq0_l (f:Nat) (h:True):Rq 0 124 0 (sM 148 [(0,nilS),(1,int 0),(2,int 0),(3,int 0),(4,fnV f),(10,Am.bool true),(11,Am.bool true)] []) AEx.ret (sM 148 [] []):=by
 have _:=h
 exact loop_exit [kO,kc [] (@ins0_w (f) (trivial))] (others 148 []) 0
theorem pdq0_w (f:Nat) (h:True):Cq 124 [nilS,int 0,int 0,int 0,fnV f] (.tup []):=by
 have _:=h
 exact callC_of [kl (rG [(5,5),(12,136)]) 0 (@pdq0_l (f) (trivial))]
theorem sortnil_w (f:Nat) (h:True):Cq 94 [nilS,fnV f] (.tup []):=by
 have _:=h
 exact callC_of [kc [] (@blen_w (trivial)),kc [] (@pdq0_w (f) (trivial))]
end Go.Mg


namespace Go.Mg
open Go Go.Am Go.Proofs Go.Seat Go.Vec Go.Cdc Go.Ops
theorem sorted_w0 (es:List (Value × AV)) (hs:CallC P G 63 [vsV,cmpF] [.box [.md true es]] (.ret nilS) [.box [.md true es]]):Cq 35 [.md true es] nilS :=
 callC_of [kc [] (@values_w (es) (trivial)),kc [0] (@hs)]
theorem sorted_w1 (es:List (Value × AV)) (g n:Nat) (u:List OP) (hs:CallC P G 63 [vsV,cmpF] [.box [.md true es]] (.ret (.own 7 g 0 n)) [.box [.md true es],.gone,.gone,.gone,.gone,.gone,.gone,.arr g 17 false (ocs u)]) :
 CallC P G 35 [.md true es] [] (.ret (.own 7 g 0 n)) [.box [.md true es],.gone,.gone,.gone,.gone,.gone,.gone,.arr g 17 false (ocs u)] :=
 callC_of [kc [] (@values_w (es) (trivial)),kc [0] (@hs),kp (show ∀ x∈ocs u,AV.idsInL [] x=true from ocs_ids u)]
end Go.Mg
