import Derived.Test.YtihbnnkcemjflaaGreatDoorG12
import Derived.KernelRfl
set_option maxRecDepth 100000
set_option linter.unusedSimpArgs false
set_option linter.unusedVariables false

namespace Go.Proofs.YtihbnnkcemjflaaGreatDoor
open Go Go.Am Go.ChangeShapes Go.WideShapes Go.RowKit
def jf1 (P:Program) (f:FuncId) (fn:Func) (s:ChangeSpec) (c:OpenClaim):Bool:=c.wf (OpenSpec.ofChange s) && laidOutB P && mapsRowed P
def jf2 (P:Program) (f:FuncId) (fn:Func) (s:ChangeSpec) (c:OpenClaim):Bool:=fn.params.all (P.readableRec ·) && namedTie P c.named s.vars && (c.stops == []) && (P.stops == []) && (c.knobs == []) && (P.stopKnobs == [])
def jf3 (P:Program) (f:FuncId) (fn:Func) (s:ChangeSpec) (c:OpenClaim):Bool:=(c.inPlace == P.inPlace f)
def jf4 (P:Program) (f:FuncId) (fn:Func) (s:ChangeSpec) (c:OpenClaim):Bool:=(c.unfollowed == P.unfollowed f) && (c.recurses == P.recurses f)
def jf5 (P:Program) (f:FuncId) (fn:Func) (s:ChangeSpec) (c:OpenClaim):Bool:=(c.named == P.varsNamed f)
def jf6 (P:Program) (f:FuncId) (fn:Func) (s:ChangeSpec) (c:OpenClaim):Bool:=(c.maps == (fn.params.toList++s.plain.varTypes P).any (P.mapsRec ·)) && (c.ifaces == (fn.params.toList++s.plain.varTypes P).any (P.ifacesRec ·)) && (c.mapsOut == P.mapsAmong fn.resultTypes.toList) && (c.loops == (fn.params.toList++s.plain.varTypes P).any (P.loopsFrom ·)) && (c.wideKeys == (fn.params.toList++s.plain.varTypes P++fn.resultTypes.toList).any (P.wideKeysFrom ·)) && s.vars.all (P.varReadable ·) && fn.resultTypes.all (fun t=>P.readableRec t && decide (t<P.types.size)) && (c.ifacesOut == fn.resultTypes.toList.any (P.ifacesRec ·)) && (c.loopsOut == fn.resultTypes.toList.any (P.loopsFrom ·))
def jf7 (P:Program) (f:FuncId) (fn:Func) (s:ChangeSpec) (c:OpenClaim):Bool:=(c.plainKeys == P.plainKeys) && c.shortTexts.isNone && P.stopsHeard && P.mayEnter
def jf8 (P:Program) (f:FuncId) (fn:Func) (s:ChangeSpec) (c:OpenClaim):Bool:=(c.lifted == P.liftsFinal)
def jf9 (P:Program) (f:FuncId) (fn:Func) (s:ChangeSpec) (c:OpenClaim):Bool:=(P.make == some c.make)
def jf10 (P:Program) (f:FuncId) (fn:Func) (s:ChangeSpec) (c:OpenClaim):Bool:=(c.kinds == (if c.domain.isEmpty then [] else fn.params.toList.map fun t=>match P.underlying t with | some (.int k)=>some k | _=>none)) && (c.pinned == c.pinnedBy)
def jf11 (P:Program) (f:FuncId) (fn:Func) (s:ChangeSpec) (c:OpenClaim):Bool:=(c.veiled == (fn.params.toList++s.plain.varTypes P++fn.resultTypes.toList).any (P.veiledRec ·)) && c.veiledFits P fn.params.toList (fn.params.toList++s.plain.varTypes P++fn.resultTypes.toList)
theorem joined_of {P:Program} {f:FuncId} {fn:Func} {s:ChangeSpec} {c:OpenClaim} (h1:jf1 P f fn s c=true) (h2:jf2 P f fn s c=true) (h3:jf3 P f fn s c=true) (h4:jf4 P f fn s c=true) (h5:jf5 P f fn s c=true) (h6:jf6 P f fn s c=true) (h7:jf7 P f fn s c=true) (h8:jf8 P f fn s c=true) (h9:jf9 P f fn s c=true) (h10:jf10 P f fn s c=true) (h11:jf11 P f fn s c=true):joinedFacts P f fn s c=true:=by
 unfold joinedFacts
 simp only [jf1,jf2,jf3,jf4,jf5,jf6,jf7,jf8,jf9,jf10,jf11,Bool.and_eq_true] at h1 h2 h3 h4 h5 h6 h7 h8 h9 h10 h11 ⊢
 simp_all only [and_self]
 exact ⟨⟨⟨⟨trivial,h10.1⟩,trivial⟩,trivial⟩,trivial⟩
end Go.Proofs.YtihbnnkcemjflaaGreatDoor


namespace Go.Vec
open Go Go.Am Go.Proofs Go.Seat
abbrev D:=Int × Int
def enc (d:D):List AV:=[int d.1,int d.2]
def encs (v:List D):List (List AV):=v.map enc
def vec (v:List D):AV:=.sl 2 false (encs v)
def dot (d:D):AV:=.agg (enc d)
theorem encs_length (v:List D):(encs v).length=v.length:=by simp [encs]
theorem encs_one (a b:Int):[[AV.lit (Value.int IntKind.i64 a),AV.lit (Value.int IntKind.i64 b)]]=encs [(a,b)]:=rfl
theorem encs_drop (v:List D) (n:Nat):List.drop n (encs v)=encs (v.drop n):=by simp [encs]
theorem encs_take (v:List D) (n:Nat):List.take n (encs v)=encs (v.take n):=by simp [encs]
theorem encs_pure (v:List D):∀ c∈encs v,c.all AV.pureB=true:=by
 intro c hc
 obtain ⟨d,_,rfl⟩:=List.mem_map.1 hc
 rfl
theorem encs_ids (v:List D):∀ c∈encs v,AV.idsInL [] c=true:=by
 intro c hc
 obtain ⟨d,_,rfl⟩:=List.mem_map.1 hc
 rfl
theorem encs_all (v:List D):List.take v.length (List.drop 0 (encs v))=encs v:=by rw [← encs_length v]; simp
def enc1 (n:Int):List AV:=[int n]
def ints (l:List Int):List (List AV):=l.map enc1
theorem ints_length (l:List Int):(ints l).length=l.length:=by simp [ints]
theorem encs_append (a b:List D):encs a++encs b=encs (a++b):=by simp [encs]
end Go.Vec


namespace Go.Vec
open Go Go.Am Go.Proofs Go.Seat
def isDotB (d:D):Bool:=decide (d.1≥0) && decide (d.1<512) && decide (d.2≥1) && decide (d.2≤1048576)
theorem isDot_w (a b:Int) (h:(((a≥0)→(((a<512)→(((b≥1)→(decide (b≤1048576))=(isDotB (a,b)))∧((¬b≥1)→(false)=(isDotB (a,b)))))∧((¬a<512)→(false)=(isDotB (a,b)))))∧((¬a≥0)→(false)=(isDotB (a,b))))):Cq 76 [dot (a,b)] (Am.bool (isDotB (a,b))):=by
 by_cases c1:(a≥0)
 · have h:=h.1 c1
   by_cases c2:(a<512)
   · have h:=h.1 c2
     by_cases c3:(b≥1)
     · have h:=h.1 c3
       exact callC_out (Sub.bool_eq h) [kt (qT c1),kt (qT c2),kt (qT c3)]
     · have h:=h.2 c3
       exact callC_out (Sub.bool_eq h) [kt (qT c1),kt (qT c2),kf (qF c3)]
   · have h:=h.2 c2
     exact callC_out (Sub.bool_eq h) [kt (qT c1),kf (qF c2),kY]
 · have h:=h.2 c1
   exact callC_out (Sub.bool_eq h) [kf (qF c1),kY,kY]
theorem isDot_c (a b:Int):Cq 76 [dot (a,b)] (bool (isDotB (a,b))):=isDot_w a b (by
 simp only [isDotB]; refine ⟨fun h=>⟨fun h=>⟨fun h=>?_,fun h=>?_⟩,fun h=>?_⟩,fun h=>?_⟩<;>simp [*])
def okAt (v:List D) (k:Nat):Bool:=match v[k]? with
 | some x=>isDotB x && (k == 0 || match v[k - 1]? with | some y=>decide (y.1<x.1) | none=>false)
 | none=>true
def okN (v:List D):Nat→Nat→Bool
 | 0,_=>true
 | n+1,k=>okAt v k && okN v n (k+1)
def okB (v:List D):Bool:=okN v v.length 0
def checkE (v:List D):Int:=if okB v=true then 0 else 120
def chkSt (v:List D) (k:Nat):St:={ env:=slots 31 [(0,vec v),(2,int 0),(5,vec v),(6,int v.length),(7,int k)],H:=[] }
theorem chk_w (v:List D) (k:Nat) (hv:v.length≤1000000000) (ex:AEx) (r:Int) (h:((((k:Int)<(v.length:Int))→(∃ x2:D,(v[k]? = some x2)∧((((isDotB (x2.1,x2.2))=true)→((((k:Int) > 0)→(∃ x6:D,((0:Int)≤(k:Int) - 1∧v[Int.toNat ((k:Int) - 1)]? = some x6)∧(((x2.1≤x6.1)→(AEx.ret=ex)∧(120=r))∧((¬x2.1≤x6.1)→Rq 0 46 0 (sM 31 [(0,vec v),(2,int 0),(5,vec v),(6,int ↑v.length),(7,int ↑(k+1))] []) ex (sM 31 [(2,int r)] [])))))∧((¬(k:Int) > 0)→Rq 0 46 0 (sM 31 [(0,vec v),(2,int 0),(5,vec v),(6,int ↑v.length),(7,int ↑(k+1))] []) ex (sM 31 [(2,int r)] []))))∧(((isDotB (x2.1,x2.2))=false)→(AEx.ret=ex)∧(120=r)))))∧((¬(k:Int)<(v.length:Int))→(AEx.exit 0=ex)∧(0=r)))):Rq 0 46 0 (chkSt v k) ex (sM 31 [(2,int r)] []):=by
 by_cases c1:((k:Int)<(v.length:Int))
 · have h:=h.1 c1
   obtain ⟨x2,o3,h⟩:=h
   have hz1:=(@isDot_c x2.1 x2.2)
   let l1:List Itm:=[kt (qT c1),ke (enc x2) (encs v) k (el_nat o3),kc [] hz1]
   rcases Bool.eq_false_or_eq_true ((isDotB (x2.1,x2.2))) with c4 | c4
   · have h:=h.1 c4
     have hz2:(!isDotB (x2.1,x2.2))=false:=(congrArg Bool.not (c4))
     by_cases c5:((k:Int) > 0)
     · have h:=h.1 c5
       obtain ⟨x6,o7,h⟩:=h
       let l2:List Itm:=l1++[kf hz2,kt (qT c5),kW 23 ((k:Int) - 1) ((k:Int) - 1),ko (Orc.elem (enc x6)),kp (show (0:Int)≤(k:Int) - 1∧(encs v)[Int.toNat ((k:Int) - 1)]? = some (enc x6) from (el_int o7))]
       by_cases c8:(x2.1≤x6.1)
       · have h:=h.1 c8
         obtain ⟨eX,e1⟩:=h
         exact RunL.to ((show Rq 0 46 0 (chkSt v k) AEx.ret (sM 31 [(2,int 120)] []) from loop_exit (l2++[kt (qT c8)]) (others 31 [2]) 0)) eX (SubS.slots ⟨rfl,(Sub.int_eq e1),trivial⟩)
       · have h:=h.2 c8
         exact loop_next (l2++[kf (qF c8),kW 30 (k+1) ↑(k+1)]) (others 31 [0,2,5,6,7]) 0 h
     · have h:=h.2 c5
       exact loop_next (l1++[kf hz2,kf (qF c5),kY,kW 30 (k+1) ↑(k+1)]) (others 31 [0,2,5,6,7]) 0 h
   · have h:=h.2 c4
     obtain ⟨eX,e1⟩:=h
     exact RunL.to ((show Rq 0 46 0 (chkSt v k) AEx.ret (sM 31 [(2,int 120)] []) from loop_exit (l1++[kt (show (!isDotB (x2.1,x2.2))=true from (congrArg Bool.not (c4))),kO]) (others 31 [2]) 0)) eX (SubS.slots ⟨rfl,(Sub.int_eq e1),trivial⟩)
 · have h:=h.2 c1
   obtain ⟨eX,e1⟩:=h
   exact RunL.to ((show Rq 0 46 0 (chkSt v k) (AEx.exit 0) (sM 31 [(2,int 0)] []) from loop_exit [kf (qF c1)] (others 31 [2]) 0)) eX (SubS.slots ⟨rfl,(Sub.int_eq e1),trivial⟩)
theorem chk_loop (v:List D) (hv:v.length≤1000000000):∀ n k,v.length - k=n→k≤v.length →
 Rq 0 46 0 (chkSt v k) (if okN v n k=true then .exit 0 else .ret) { env:=slots 31 [(2,int (if okN v n k=true then 0 else 120))],H:=[] }:=by
 intro n
 induction n with
 | zero=>intro k hn hk; exact chk_w v k hv _ _ ⟨fun h=>absurd h (by omega),fun _=>⟨rfl,rfl⟩⟩
 | succ n ih =>
  intro k hn hk
  have hlt:k<v.length:=by omega
  have hx:v[k]? = some v[k]:=List.getElem?_eq_getElem hlt
  have nx:∀ {b:Bool},okAt v k=true→okN v (n+1) k=okN v n (k+1):=fun h=>by simp [okN,h]
  have bad:okAt v k=false→okN v (n+1) k=false:=fun h=>by simp [okN,h]
  refine chk_w v k hv _ _ ⟨fun h=>⟨v[k],hx,⟨fun hq=>⟨fun h0=>?_,fun h0=>?_⟩,fun hq=>?_⟩⟩,fun h=>absurd hlt (by omega)⟩
  · have hy:v[k - 1]? = some (v[k - 1]'(by omega)):=List.getElem?_eq_getElem (by omega)
    refine ⟨v[k - 1]'(by omega),⟨by omega,by rw [show ((k:Int) - 1).toNat=k - 1 by omega]; exact hy⟩,⟨fun hl=>?_,fun hl=>?_⟩⟩
    · have hb:okAt v k=false:=by simp only [okAt,hx,hy]; simp; exact fun _=>⟨by omega,by omega⟩
      rw [bad hb]; exact ⟨rfl,rfl⟩
    · have hb:okAt v k=true:=by simp only [okAt,hx,hy,Bool.and_eq_true]; exact ⟨hq,by simp; exact .inr (by omega)⟩
      rw [nx (b:=true) hb]; exact ih (k+1) (by omega) (by omega)
  · have hb:okAt v k=true:=by simp only [okAt,hx,Bool.and_eq_true]; exact ⟨hq,by simp; exact .inl (by omega)⟩
    rw [nx (b:=true) hb]; exact ih (k+1) (by omega) (by omega)
  · have hb:okAt v k=false:=by simp only [okAt,hx]; simp [hq]
    rw [bad hb]; exact ⟨rfl,rfl⟩
theorem chk_c (v:List D) (hv:v.length≤1000000000):Rq 0 46 0 (chkSt v 0) (if okB v=true then .exit 0 else .ret) { env:=slots 31 [(2,int (if okB v=true then 0 else 120))],H:=[] } :=
 chk_loop v hv v.length 0 (by omega) (by omega)
theorem check_w (v:List D) (hv:v.length≤1000000000) (h:(((okB v=true)→(0:Int)=(checkE v))∧((¬okB v=true)→(120:Int)=(checkE v)))):Cq 46 [vec v] (int (checkE v)):=by
 have hz0:=lenS (encs_length v)
 by_cases c1:(okB v=true)
 · have h:=h.1 c1
   exact callC_out (Sub.int_eq h) [kv 6 hz0,kl (rG [(1,1),(3,2),(8,23)]) 0 (show Rq 0 46 0 (sM 31 [(0,.sl 2 false (encs v)),(2,int 0),(5,.sl 2 false (encs v)),(6,int ↑v.length),(7,int 0)] []) (AEx.exit 0) (sM 31 [(2,int 0)] []) from (by have h0:=(@chk_c (v) (by omega)); simp only [if_pos c1] at h0; exact h0))]
 · have h:=h.2 c1
   exact callC_out (Sub.int_eq h) [kv 6 hz0,kl (rG [(1,1),(3,2),(8,23)]) 0 (show Rq 0 46 0 (sM 31 [(0,.sl 2 false (encs v)),(2,int 0),(5,.sl 2 false (encs v)),(6,int ↑v.length),(7,int 0)] []) AEx.ret (sM 31 [(2,int 120)] []) from (by have h0:=(@chk_c (v) (by omega)); simp only [if_neg c1] at h0; exact h0))]
theorem check_c (v:List D) (hv:v.length≤1000000000):Cq 46 [vec v] (int (checkE v)):=check_w v hv ⟨fun h=>by simp [checkE,h],fun h=>by simp [checkE,h]⟩
def sameSt (a b:List D) (k:Nat):St:={ env:=slots 26 [(0,vec a),(1,vec b),(4,bool false),(5,int k)],H:=[] }
theorem same_w (a b:List D) (k:Nat) (ha:a.length≤1000000000) (hb:b.length=a.length) (ex:AEx) (r:Bool) (h:((((k:Int)<(a.length:Int))→(∃ x2:D,(a[k]? = some x2)∧(∃ x4:D,(b[k]? = some x4)∧((((x2.1 == x4.1 && x2.2 == x4.2)=true)→Rq 0 18 0 (sM 26 [(0,vec a),(1,vec b),(4,Am.bool false),(5,int ↑(k+1))] []) ex (sM 26 [(4,Am.bool r)] []))∧(((x2.1 == x4.1 && x2.2 == x4.2)=false)→(AEx.ret=ex)∧((false)=(r)))))))∧((¬(k:Int)<(a.length:Int))→(AEx.exit 0=ex)∧((false)=(r))))):Rq 0 18 0 (sameSt a b k) ex (sM 26 [(4,Am.bool r)] []):=by
 have hz0:=lenS (encs_length a)
 by_cases c1:((k:Int)<(a.length:Int))
 · have h:=h.1 c1
   obtain ⟨x2,o3,h⟩:=h
   obtain ⟨x4,o5,h⟩:=h
   let l1:List Itm:=[kv 13 hz0,kt (qT c1),ko (Orc.elem (enc x2)),ko (Orc.elem (enc x4)),kp (show (0:Int)≤(k:Int)∧(encs a)[Int.toNat (k:Int)]? = some (enc x2) from (el_nat o3)),kp (show (0:Int)≤(k:Int)∧(encs b)[Int.toNat (k:Int)]? = some (enc x4) from (el_nat o5))]
   rcases Bool.eq_false_or_eq_true ((x2.1 == x4.1 && x2.2 == x4.2)) with c6 | c6
   · have h:=h.1 c6
     exact loop_next (l1++[kf (show (!(x2.1 == x4.1 && x2.2 == x4.2))=false from (congrArg Bool.not (c6))),kW 16 (k+1) ↑(k+1)]) (others 26 [0,1,4,5]) 0 h
   · have h:=h.2 c6
     obtain ⟨eX,e1⟩:=h
     exact RunL.to ((show Rq 0 18 0 (sameSt a b k) AEx.ret (sM 26 [(4,Am.bool false)] []) from loop_exit (l1++[kt (show (!(x2.1 == x4.1 && x2.2 == x4.2))=true from (congrArg Bool.not (c6)))]) (others 26 [4]) 0)) eX (SubS.slots ⟨rfl,(Sub.bool_eq e1),trivial⟩)
 · have h:=h.2 c1
   obtain ⟨eX,e1⟩:=h
   exact RunL.to ((show Rq 0 18 0 (sameSt a b k) (AEx.exit 0) (sM 26 [(4,Am.bool false)] []) from loop_exit [kv 13 hz0,kf (qF c1)] (others 26 [4]) 0)) eX (SubS.slots ⟨rfl,(Sub.bool_eq e1),trivial⟩)
theorem same_loop (a b:List D) (ha:a.length≤1000000000) (hb:b.length=a.length):∀ n k,a.length - k=n→k≤a.length →
 Rq 0 18 0 (sameSt a b k) (if a.drop k=b.drop k then .exit 0 else .ret) { env:=slots 26 [(4,bool false)],H:=[] }:=by
 intro n
 induction n with
 | zero =>
  intro k hn hk
  have e:a.drop k=b.drop k:=by rw [List.drop_of_length_le (by omega),List.drop_of_length_le (by omega)]
  exact same_w a b k ha hb _ _ ⟨fun h=>absurd h (by omega),fun _=>⟨by rw [if_pos e],rfl⟩⟩
 | succ n ih =>
  intro k hn hk
  have hlt:k<a.length:=by omega
  have hlt':k<b.length:=by omega
  have e1:=List.drop_eq_getElem_cons hlt
  have e2:=List.drop_eq_getElem_cons hlt'
  refine same_w a b k ha hb _ _ ⟨fun h=>⟨a[k],List.getElem?_eq_getElem hlt,b[k],List.getElem?_eq_getElem hlt',⟨fun hq=>?_,fun hq=>?_⟩⟩,fun h=>absurd hlt (by omega)⟩
  · have hab:a[k]=b[k]:=by simp at hq; exact Prod.ext hq.1 hq.2
    have h2:=ih (k+1) (by omega) (by omega)
    by_cases hd:a.drop (k+1)=b.drop (k+1)
    · rw [if_pos hd] at h2
      rw [if_pos (by rw [e1,e2,hab,hd])]
      exact h2
    · rw [if_neg hd] at h2
      rw [if_neg (by rw [e1,e2,hab]; exact fun h=>hd (List.cons.inj h).2)]
      exact h2
  · have hne:¬ a.drop k=b.drop k:=by
     rw [e1,e2]
     intro he
     injection he with h1 _
     rw [h1] at hq
     simp at hq
    rw [if_neg hne]
    exact ⟨rfl,rfl⟩
theorem same_l (a b:List D) (ha:a.length≤1000000000) (hb:b.length=a.length):Rq 0 18 0 (sameSt a b 0) (if a=b then .exit 0 else .ret) { env:=slots 26 [(4,bool false)],H:=[] } :=
 same_loop a b ha hb _ 0 rfl (by omega)
theorem same_f (a b:List D) (ha:a.length≤1000000000) (h:((((a.length:Int)=(b.length:Int))→(((a=b)→(true)=(decide (a=b)))∧((¬a=b)→(false)=(decide (a=b)))))∧((¬(a.length:Int)=(b.length:Int))→(false)=(decide (a=b))))):Cq 18 [vec a,vec b] (Am.bool (decide (a=b))):=by
 have hz0:=lenS (encs_length a)
 have hz1:=lenS (encs_length b)
 by_cases c1:((a.length:Int)=(b.length:Int))
 · have h:=h.1 c1
   have hz2:((a.length:Int) != (b.length:Int))=false:=(congrArg Bool.not (qEq.2 c1))
   by_cases c2:(a=b)
   · have h:=h.1 c2
     exact callC_out (Sub.bool_eq h) [kv 7 hz0,kv 9 hz1,kf hz2,kl (rG [(2,2),(6,20)]) 0 (show Rq 0 18 0 (sM 26 [(0,.sl 2 false (encs a)),(1,.sl 2 false (encs b)),(4,Am.bool false),(5,int 0)] []) (AEx.exit 0) (sM 26 [(4,Am.bool false)] []) from (by have h0:=(@same_l (a) (b) (by omega) (by omega)); simp only [if_pos c2] at h0; exact h0))]
   · have h:=h.2 c2
     exact callC_out (Sub.bool_eq h) [kv 7 hz0,kv 9 hz1,kf hz2,kl (rG [(2,2),(6,20)]) 0 (show Rq 0 18 0 (sM 26 [(0,.sl 2 false (encs a)),(1,.sl 2 false (encs b)),(4,Am.bool false),(5,int 0)] []) AEx.ret (sM 26 [(4,Am.bool false)] []) from (by have h0:=(@same_l (a) (b) (by omega) (by omega)); simp only [if_neg c2] at h0; exact h0))]
 · have h:=h.2 c1
   exact callC_out (Sub.bool_eq h) [kv 7 hz0,kv 9 hz1,kt (show ((a.length:Int) != (b.length:Int))=true from (congrArg Bool.not (qN.2 c1)))]
theorem same_c (a b:List D) (ha:a.length≤1000000000):Cq 18 [vec a,vec b] (bool (decide (a=b))):=by
 refine same_f a b ha ⟨fun h=>⟨fun h=>by simp [h],fun h=>by simp [h]⟩,fun h=>?_⟩
 have:a≠b:=fun e=>h (by rw [e])
 simp [this]
def hasV (dev:Int) (l:List D):Bool:=l.any fun d=>decide (d.1=dev)
def atV (dev:Int):List D→Int
 | []=>0
 | d::t=>if d.1=dev then d.2 else atV dev t
theorem hasV_cons (dev:Int) (d:D) (t:List D):hasV dev (d::t)=(decide (d.1=dev) || hasV dev t):=rfl
theorem at1_w (a b dev:Int) (h:True):CallC P G 62 [dot (a,b),.ptr 0 0] [AObj.box [int dev]] (AOut.ret (Am.bool (decide (a=dev)))) [AObj.box [int dev]]:=by
 have _:=h
 exact callC_of []
theorem at1_c (a b dev:Int):CallC P G 62 [dot (a,b),.ptr 0 0] [.box [int dev]] (.ret (bool (decide (a=dev)))) [.box [int dev]]:=at1_w a b dev trivial
def ixSt (v:List D) (dev:Int) (k:Nat):St:={ env:=slots 19 [(0,vec v),(1,.fn (.func 62) [] [.ptr 0 0]),(4,int 0),(6,vec v),(7,int v.length),(8,int k)],H:=[.box [int dev]] }
theorem ix_w (v:List D) (dev:Int) (k:Nat) (hv:v.length≤1000000000) (ex:AEx) (r:Int) (h:((((k:Int)<(v.length:Int))→(∃ x2:D,(v[k]? = some x2)∧(((x2.1=dev)→(AEx.ret=ex)∧(((k:Int):Int)=(r)))∧((¬x2.1=dev)→Rq 1 61 0 (sM 19 [(0,vec v),(1,.fn (Fn.func 62) [] [.ptr 0 0]),(4,int 0),(6,vec v),(7,int ↑v.length),(8,int ↑(k+1))] [.box [int dev]]) ex (sM 19 [(4,int r)] [.box [int dev]])))))∧((¬(k:Int)<(v.length:Int))→(AEx.exit 0=ex)∧(0=r)))):Rq 1 61 0 (ixSt v dev k) ex (sM 19 [(4,int r)] [.box [int dev]]):=by
 by_cases c1:((k:Int)<(v.length:Int))
 · have h:=h.1 c1
   obtain ⟨x2,o3,h⟩:=h
   have hz1:=(@at1_c x2.1 x2.2 (dev))
   let l1:List Itm:=[kt (qT c1),ke (enc x2) (encs v) k (el_nat o3),kc [0] hz1]
   by_cases c4:(x2.1=dev)
   · have h:=h.1 c4
     obtain ⟨eX,e1⟩:=h
     exact RunL.to ((show Rq 1 61 0 (ixSt v dev k) AEx.ret (sM 19 [(4,int ↑k)] [.box [int dev]]) from loop_exit (l1++[kt (qT c4)]) (others 19 [4]) 1)) eX (SubS.slots ⟨rfl,(Sub.int_eq e1),trivial⟩)
   · have h:=h.2 c4
     exact loop_next (l1++[kf (qF c4),kW 18 (k+1) ↑(k+1)]) (others 19 [0,1,4,6,7,8]) 1 h
 · have h:=h.2 c1
   obtain ⟨eX,e1⟩:=h
   exact RunL.to ((show Rq 1 61 0 (ixSt v dev k) (AEx.exit 0) (sM 19 [(4,int 0)] [.box [int dev]]) from loop_exit [kf (qF c1)] (others 19 [4]) 1)) eX (SubS.slots ⟨rfl,(Sub.int_eq e1),trivial⟩)
def ixV (dev:Int):Int→List D→Int
 | _,[] => -1
 | k,d::t=>if d.1=dev then k else ixV dev (k+1) t
theorem ix_loop (v:List D) (dev:Int) (hv:v.length≤1000000000):∀ n k,v.length - k=n→k≤v.length →
 Rq 1 61 0 (ixSt v dev k) (if hasV dev (v.drop k)=true then .ret else .exit 0) { env:=slots 19 [(4,int (if hasV dev (v.drop k)=true then ixV dev k (v.drop k) else 0))],H:=[.box [int dev]] }:=by
 intro n
 induction n with
 | zero =>
  intro k hn hk
  have e:v.drop k=[]:=List.drop_of_length_le (by omega)
  rw [e]
  exact ix_w v dev k hv _ _ ⟨fun h=>absurd h (by omega),fun _=>⟨rfl,rfl⟩⟩
 | succ n ih =>
  intro k hn hk
  have hlt:k<v.length:=by omega
  have e:=List.drop_eq_getElem_cons hlt
  refine ix_w v dev k hv _ _ ⟨fun h=>⟨v[k],List.getElem?_eq_getElem hlt,⟨fun hq=>?_,fun hq=>?_⟩⟩,fun h=>absurd hlt (by omega)⟩
  · rw [e,hasV_cons]; simp [ixV,hq]
  · have h1:hasV dev (v.drop k)=hasV dev (v.drop (k+1)):=by rw [e,hasV_cons]; simp [hq]
    have h2:ixV dev k (v.drop k)=ixV dev ((k+1:Nat):Int) (v.drop (k+1)):=by rw [e]; simp [ixV,hq]
    rw [h1,h2]
    exact ih (k+1) (by omega) (by omega)
theorem ix_l (v:List D) (dev:Int) (hv:v.length≤1000000000):Rq 1 61 0 (ixSt v dev 0) (if hasV dev v=true then .ret else .exit 0) { env:=slots 19 [(4,int (if hasV dev v=true then ixV dev 0 v else 0))],H:=[.box [int dev]] } :=
 ix_loop v dev hv _ 0 rfl (by omega)
theorem ix_f (v:List D) (dev:Int) (hv:v.length≤1000000000) (h:(((hasV dev v=true)→True)∧((¬hasV dev v=true)→(-1:Int)=(ixV dev 0 v)))):CallC P G 61 [vec v,.fn (Fn.func 62) [] [.ptr 0 0]] [AObj.box [int dev]] (AOut.ret (int (ixV dev 0 v))) [AObj.box [int dev]]:=by
 have hz0:=lenS (encs_length v)
 by_cases c1:(hasV dev v=true)
 · have h:=h.1 c1
   have _:=h
   exact callC_of [kv 7 hz0,kl (rG [(2,2),(5,1),(9,10)]) 1 (show Rq 1 61 0 (sM 19 [(0,.sl 2 false (encs v)),(1,.fn (Fn.func 62) [] [.ptr 0 0]),(4,int 0),(6,.sl 2 false (encs v)),(7,int ↑v.length),(8,int 0)] [.box [int dev]]) AEx.ret (sM 19 [(4,int (ixV dev 0 v))] [.box [int dev]]) from (by have h0:=(@ix_l (v) (dev) (by omega)); simp only [if_pos c1] at h0; exact h0))]
 · have h:=h.2 c1
   exact callC_out (Sub.int_eq h) [kv 7 hz0,kl (rG [(2,2),(5,1),(9,10)]) 1 (show Rq 1 61 0 (sM 19 [(0,.sl 2 false (encs v)),(1,.fn (Fn.func 62) [] [.ptr 0 0]),(4,int 0),(6,.sl 2 false (encs v)),(7,int ↑v.length),(8,int 0)] [.box [int dev]]) (AEx.exit 0) (sM 19 [(4,int 0)] [.box [int dev]]) from (by have h0:=(@ix_l (v) (dev) (by omega)); simp only [if_neg c1] at h0; exact h0))]
theorem ixV_none {dev:Int}:∀ {v:List D} {k:Int},hasV dev v=false→ixV dev k v = -1
 | [],_,_=>rfl
 | d::t,k,h=>by
  simp only [hasV,List.any_cons,Bool.or_eq_false_iff,decide_eq_false_iff_not] at h
  rw [ixV,if_neg h.1]
  exact ixV_none (by simpa [hasV] using h.2)
theorem ix_c (v:List D) (dev:Int) (hv:v.length≤1000000000):CallC P G 61 [vec v,.fn (.func 62) [] [.ptr 0 0]] [.box [int dev]] (.ret (int (ixV dev 0 v))) [.box [int dev]] :=
 ix_f v dev hv ⟨fun _=>trivial,fun h=>(ixV_none (by simpa using h)).symm⟩
theorem at_f (v:List D) (dev:Int) (hv:v.length≤1000000000) (h:(((ixV dev 0 v≥0)→(∃ x2:D,((0:Int)≤ixV dev 0 v∧v[Int.toNat (ixV dev 0 v)]? = some x2)∧(x2.2:Int)=(atV dev v)))∧((¬ixV dev 0 v≥0)→(0:Int)=(atV dev v)))):Cq 32 [vec v,int dev] (int (atV dev v)):=by
 have hz0:=(@ix_c (v) (dev) (by omega))
 by_cases c1:(ixV dev 0 v≥0)
 · have h:=h.1 c1
   obtain ⟨x2,o3,h⟩:=h
   exact callC_out (Sub.int_eq h) [kc [0] hz0,kt (qT c1),ko (Orc.elem (enc x2)),kp (show (0:Int)≤ixV dev 0 v∧(encs v)[Int.toNat (ixV dev 0 v)]? = some (enc x2) from (el_int o3))]
 · have h:=h.2 c1
   exact callC_out (Sub.int_eq h) [kc [0] hz0,kf (qF c1)]
theorem ixV_at {dev:Int}:∀ {v:List D} {k:Nat},(∃ j d,ixV dev k v=((k+j:Nat):Int)∧v[j]? = some d∧d.2=atV dev v)∨(ixV dev k v = -1∧atV dev v=0)
 | [],k=>.inr ⟨rfl,rfl⟩
 | d::t,k=>by
  by_cases hq:d.1=dev
  · exact .inl ⟨0,d,by simp [ixV,hq],rfl,by simp [atV,hq]⟩
  · rcases ixV_at (dev:=dev) (v:=t) (k:=k+1) with ⟨j,d',h1,h2,h3⟩ | ⟨h1,h2⟩
    · exact .inl ⟨j+1,d',by rw [ixV,if_neg hq]; push_cast at h1 ⊢; rw [h1]; omega,by simpa using h2,by rw [atV,if_neg hq]; exact h3⟩
    · exact .inr ⟨by rw [ixV,if_neg hq]; push_cast at h1; exact h1,by rw [atV,if_neg hq]; exact h2⟩
theorem at_c (v:List D) (dev:Int) (hv:v.length≤1000000000):Cq 32 [vec v,int dev] (int (atV dev v)):=by
 refine at_f v dev hv ?_
 rcases ixV_at (dev:=dev) (v:=v) (k:=0) with ⟨j,d,h1,h2,h3⟩ | ⟨h1,h2⟩
 · have h1:ixV dev 0 v=(j:Int):=by simpa using h1
   rw [h1]
   exact ⟨fun _=>⟨d,⟨by omega,by simpa using h2⟩,h3⟩,fun h=>absurd (by omega) h⟩
 · have h1:ixV dev 0 v = -1:=by simpa using h1
   rw [h1]
   exact ⟨fun h=>absurd h (by omega),fun _=>h2.symm⟩
def coversB (v:List D) (d:D):Bool:=decide (d.2≥1) && decide (d.2≤atV d.1 v)
theorem covers_f (v:List D) (a b:Int) (hv:v.length≤1000000000) (h:(((b≥1)→(decide (b≤atV a v))=(coversB v (a,b)))∧((¬b≥1)→(false)=(coversB v (a,b))))):Cq 28 [vec v,dot (a,b)] (Am.bool (coversB v (a,b))):=by
 by_cases c1:(b≥1)
 · have h:=h.1 c1
   exact callC_out (Sub.bool_eq h) [kt (qT c1),kc [] (@at_c (v) (a) (by omega))]
 · have h:=h.2 c1
   exact callC_out (Sub.bool_eq h) [kf (qF c1)]
theorem covers_c (v:List D) (a b:Int) (hv:v.length≤1000000000):Cq 28 [vec v,dot (a,b)] (bool (coversB v (a,b))) :=
 covers_f v a b hv (by simp only [coversB]; exact ⟨fun h=>by simp [h],fun h=>by simp [h]⟩)
end Go.Vec
