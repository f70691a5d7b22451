import Derived.Test.YtihbnnkcemjflaaGreatDoorH3
set_option maxRecDepth 100000
set_option linter.unusedSimpArgs false
set_option linter.unusedVariables false
open List
noncomputable section
namespace Go.bH
open Go Go.Am Go.Proofs Go.eY
def fu(x y:Int):Int:=if y>x then y else x
def rl(f:Nat):AV:=.lit (.func (.func f) #[] #[])
theorem aoM d x y(h:True):Cq 307 [.agg [int d,int x,int y]] (int (fu x y)):=by
 exact aj []
theorem alk d x y:Cq 307 [.agg [int d,int x,int y]] (int (fu x y)):=aoM d x y trivial
def lq:ah:=.iV .ready none (aC 35 [(3,.ptr 3 0),(6,.ptr 4 0)]) #[20] (KP P 91 0) (uT P 91 0)
def q0(f:Nat)(A B:List D):List ah:=[lq,.box [bB A],.box [bB B],.box [rl f],.box [aK]]
def q1(f:Nat)(A B:List D)(g:Nat)(v:List D):List ah:=[lq,.box [bB A],.box [bB B],.box [rl f],.box [.aU 7 g 0 v.length],.aH,.aH,.aN g 2 false (au v)]
def Y0(f:Nat)(tk:Int->Int->Int)(A B:List D)(d x y:Int):Prop :=
 dY P G 0 [.agg [int d,int x,int y]] (q0 f A B++[.box [int d,int x,int y]]) true (if tk x y>0 then q1 f A B 0 [(d,tk x y)]else q0 f A B++[.box [int d,int x,int y]])
def Y1(f:Nat)(tk:Int->Int->Int)(A B v:List D)(g:Nat)(d x y:Int):Prop :=
 dY P G 0 [.agg [int d,int x,int y]] (q1 f A B g v++[.box [int d,int x,int y]]) true (if tk x y>0 then q1 f A B (g+1) (v++[(d,tk x y)])++[.box [int d,int x,int y]]else q1 f A B g v++[.box [int d,int x,int y]])
theorem aeH A B(d x y:Int)(b:Bool)H'(h:(((fu x y>0)->(true=b)/\([lq,ah.box [bB A],ah.box [bB B],ah.box [iL 307],ah.box [AV.aU 7 0 0 1],ah.box [int d,int x,int y],ah.box [int d,int x,int y],ah.aN 0 2 false (au [(d,fu x y)])]=H'))/\((¬fu x y>0)->(true=b)/\([lq,ah.box [bB A],ah.box [bB B],ah.box [iL 307],ah.box [aK],ah.box [int d,int x,int y]]=H')))):dY P G 0 [AV.agg [int d,int x,int y]] (q0 307 A B++[ah.box [int d,int x,int y]]) b H':=by
 have bS:=(@alk (d) (x) (y));by_cases c1:(fu x y>0)
 .have h:=h.1 c1;obtain⟨e1,e2⟩:=h;exact dY.to ((jI (fun _=>[kc [] bS,kt (qT c1),Qx [int d,int (fu x y)],vV 16]) (fun _=>zQ))) e1 e2
 .have h:=h.2 c1;obtain⟨e1,e2⟩:=h;exact dY.to ((jI (fun _=>[kc [] bS,kf (qF c1)]) (fun _=>zQ))) e1 e2
theorem aeI A B v(g:Nat)d x y(b:Bool)H'(hv:v.length<=3000000000)(h:(((fu x y>0)->(true=b)/\([lq,ah.box [bB A],ah.box [bB B],ah.box [iL 307],ah.box [AV.aU 7 (g+1) 0 (length (v++[(d,fu x y)]))],ah.aH,ah.aH,ah.aN (g+1) 2 false (au (v++[(d,fu x y)])),ah.box [int d,int x,int y]]=H'))/\((¬fu x y>0)->(true=b)/\([lq,ah.box [bB A],ah.box [bB B],ah.box [iL 307],ah.box [AV.aU 7 g 0 v.length],ah.aH,ah.aH,ah.aN g 2 false (au v),ah.box [int d,int x,int y]]=H')))):dY P G 0 [AV.agg [int d,int x,int y]] (q1 307 A B g v++[ah.box [int d,int x,int y]]) b H':=by
 have bS:=(@alk (d) (x) (y));by_cases c1:(fu x y>0)
 .have h:=h.1 c1;obtain⟨e1,e2⟩:=h;exact dY.to ((jI (fun _=>[kc [] bS,kt (qT c1),ko (bC.hp (some 33) (AV.aU 7 (g+1) 0 (length (v++[(d,fu x y)]))) [ah.iV LoopState.busy none (aC 35 [(3,AV.ptr 3 0),(6,AV.ptr 4 0)]) (Array.mk [20]) (Code.region 5 #[Oper.mk (some 9) (Op.alloc 175) 0 "vector.go:80" #[] none,Oper.mk none (Op.store 175 (Operand.tmp 9) (Operand.tmp 20)) 0 "vector.go:80" #[Edge.mk 0 Ground.data,Edge.mk 0 Ground.phase] none] false) (Code.block 1 (Code.seq (Code.region 6 #[Oper.mk (some 21) (Op.fieldAddr 146 (Operand.tmp 3) 0) 0 "vector.go:81" #[] none,Oper.mk (some 22) (Op.load 144 (Operand.tmp 21)) 144 "vector.go:81" #[Edge.mk 0 Ground.data] none,Oper.mk (some 23) (Op.load 175 (Operand.tmp 9)) 175 "vector.go:81" #[] none,Oper.mk (some 24) (Op.call (Call.mk (Callee.value (Operand.tmp 22)) #[Operand.tmp 23] #[175])) 3 "vector.go:81" #[Edge.mk 1 Ground.data,Edge.mk 2 Ground.data] none,Oper.mk (some 10) (Op.assign (Operand.tmp 24)) 3 "vector.go:81" #[Edge.mk 3 Ground.data,Edge.mk 3 Ground.chain,Edge.mk 0 Ground.phase,Edge.mk 1 Ground.phase,Edge.mk 2 Ground.phase,Edge.mk 3 Ground.phase] none] false) (Code.seq (Code.region 7 #[Oper.mk (some 25) (Op.move (Operand.tmp 10)) 3 "vector.go:81" #[] none,Oper.mk (some 26) (Op.binOp BinOp.gtr 3 (Operand.tmp 25) (Operand.const (Value.int IntKind.i64 0)) 3) 4 "vector.go:81" #[Edge.mk 0 Ground.data] none] false) (Code.cond (Operand.tmp 26) (Code.region 8 #[Oper.mk (some 27) (Op.load 29 (Operand.tmp 6)) 29 "vector.go:82" #[] none,Oper.mk (some 28) (Op.fieldAddr 175 (Operand.tmp 9) 0) 0 "vector.go:82" #[] none,Oper.mk (some 29) (Op.load 3 (Operand.tmp 28)) 3 "vector.go:82" #[Edge.mk 1 Ground.data] none,Oper.mk (some 30) (Op.move (Operand.tmp 10)) 3 "vector.go:82" #[] none,Oper.mk (some 31) (Op.build 49 #[(0,Operand.tmp 29),(1,Operand.tmp 30)]) 49 "vector.go:82" #[Edge.mk 2 Ground.data,Edge.mk 3 Ground.data] none,Oper.mk (some 32) (Op.buildSlice 29 1 #[(0,Operand.tmp 31)]) 29 "vector.go:82" #[Edge.mk 4 Ground.data] none,Oper.mk (some 33) (Op.call (Call.mk (Callee.builtin Builtin.append) #[Operand.tmp 27,Operand.tmp 32] #[29,29])) 29 "vector.go:82" #[Edge.mk 0 Ground.data,Edge.mk 5 Ground.data] none,Oper.mk none (Op.store 29 (Operand.tmp 6) (Operand.tmp 33)) 0 "vector.go:82" #[Edge.mk 6 Ground.data,Edge.mk 6 Ground.chain,Edge.mk 0 Ground.phase,Edge.mk 1 Ground.phase,Edge.mk 2 Ground.phase,Edge.mk 3 Ground.phase,Edge.mk 4 Ground.phase,Edge.mk 5 Ground.phase,Edge.mk 6 Ground.phase] none] false) Code.skip)))),ah.box [AV.sl 2 false (au A)],ah.box [AV.sl 2 false (au B)],ah.box [iL 307],ah.box [AV.aU 7 g 0 v.length],ah.aH,ah.aH,ah.aN (g+1) 2 false (au (v++[(d,fu x y)])),ah.box [int d,int x,int y],ah.box [int d,int x,int y]]),kp (show Am.aF (AV.aU 7 (g+1) 0 (length v+1)) (AV.aU 7 (g+1) 0 (length (v++[(d,fu x y)])))from(aF.of_eq (by simp[bJ]))),kp (show Am.HSub [ah.iV LoopState.busy none (aC 35 [(3,AV.ptr 3 0),(6,AV.ptr 4 0)]) (Array.mk [20]) (Code.region 5 #[Oper.mk (some 9) (Op.alloc 175) 0 "vector.go:80" #[] none,Oper.mk none (Op.store 175 (Operand.tmp 9) (Operand.tmp 20)) 0 "vector.go:80" #[Edge.mk 0 Ground.data,Edge.mk 0 Ground.phase] none] false) (Code.block 1 (Code.seq (Code.region 6 #[Oper.mk (some 21) (Op.fieldAddr 146 (Operand.tmp 3) 0) 0 "vector.go:81" #[] none,Oper.mk (some 22) (Op.load 144 (Operand.tmp 21)) 144 "vector.go:81" #[Edge.mk 0 Ground.data] none,Oper.mk (some 23) (Op.load 175 (Operand.tmp 9)) 175 "vector.go:81" #[] none,Oper.mk (some 24) (Op.call (Call.mk (Callee.value (Operand.tmp 22)) #[Operand.tmp 23] #[175])) 3 "vector.go:81" #[Edge.mk 1 Ground.data,Edge.mk 2 Ground.data] none,Oper.mk (some 10) (Op.assign (Operand.tmp 24)) 3 "vector.go:81" #[Edge.mk 3 Ground.data,Edge.mk 3 Ground.chain,Edge.mk 0 Ground.phase,Edge.mk 1 Ground.phase,Edge.mk 2 Ground.phase,Edge.mk 3 Ground.phase] none] false) (Code.seq (Code.region 7 #[Oper.mk (some 25) (Op.move (Operand.tmp 10)) 3 "vector.go:81" #[] none,Oper.mk (some 26) (Op.binOp BinOp.gtr 3 (Operand.tmp 25) (Operand.const (Value.int IntKind.i64 0)) 3) 4 "vector.go:81" #[Edge.mk 0 Ground.data] none] false) (Code.cond (Operand.tmp 26) (Code.region 8 #[Oper.mk (some 27) (Op.load 29 (Operand.tmp 6)) 29 "vector.go:82" #[] none,Oper.mk (some 28) (Op.fieldAddr 175 (Operand.tmp 9) 0) 0 "vector.go:82" #[] none,Oper.mk (some 29) (Op.load 3 (Operand.tmp 28)) 3 "vector.go:82" #[Edge.mk 1 Ground.data] none,Oper.mk (some 30) (Op.move (Operand.tmp 10)) 3 "vector.go:82" #[] none,Oper.mk (some 31) (Op.build 49 #[(0,Operand.tmp 29),(1,Operand.tmp 30)]) 49 "vector.go:82" #[Edge.mk 2 Ground.data,Edge.mk 3 Ground.data] none,Oper.mk (some 32) (Op.buildSlice 29 1 #[(0,Operand.tmp 31)]) 29 "vector.go:82" #[Edge.mk 4 Ground.data] none,Oper.mk (some 33) (Op.call (Call.mk (Callee.builtin Builtin.append) #[Operand.tmp 27,Operand.tmp 32] #[29,29])) 29 "vector.go:82" #[Edge.mk 0 Ground.data,Edge.mk 5 Ground.data] none,Oper.mk none (Op.store 29 (Operand.tmp 6) (Operand.tmp 33)) 0 "vector.go:82" #[Edge.mk 6 Ground.data,Edge.mk 6 Ground.chain,Edge.mk 0 Ground.phase,Edge.mk 1 Ground.phase,Edge.mk 2 Ground.phase,Edge.mk 3 Ground.phase,Edge.mk 4 Ground.phase,Edge.mk 5 Ground.phase,Edge.mk 6 Ground.phase] none] false) Code.skip)))),ah.box [AV.sl 2 false (au A)],ah.box [AV.sl 2 false (au B)],ah.box [iL 307],ah.box [AV.aU 7 g 0 v.length],ah.aH,ah.aH,ah.aN (g+1) 2 false (au v++[[int d,int (fu x y)]]),ah.box [int d,int x,int y],ah.box [int d,int x,int y]] [ah.iV LoopState.busy none (aC 35 [(3,AV.ptr 3 0),(6,AV.ptr 4 0)]) (Array.mk [20]) (Code.region 5 #[Oper.mk (some 9) (Op.alloc 175) 0 "vector.go:80" #[] none,Oper.mk none (Op.store 175 (Operand.tmp 9) (Operand.tmp 20)) 0 "vector.go:80" #[Edge.mk 0 Ground.data,Edge.mk 0 Ground.phase] none] false) (Code.block 1 (Code.seq (Code.region 6 #[Oper.mk (some 21) (Op.fieldAddr 146 (Operand.tmp 3) 0) 0 "vector.go:81" #[] none,Oper.mk (some 22) (Op.load 144 (Operand.tmp 21)) 144 "vector.go:81" #[Edge.mk 0 Ground.data] none,Oper.mk (some 23) (Op.load 175 (Operand.tmp 9)) 175 "vector.go:81" #[] none,Oper.mk (some 24) (Op.call (Call.mk (Callee.value (Operand.tmp 22)) #[Operand.tmp 23] #[175])) 3 "vector.go:81" #[Edge.mk 1 Ground.data,Edge.mk 2 Ground.data] none,Oper.mk (some 10) (Op.assign (Operand.tmp 24)) 3 "vector.go:81" #[Edge.mk 3 Ground.data,Edge.mk 3 Ground.chain,Edge.mk 0 Ground.phase,Edge.mk 1 Ground.phase,Edge.mk 2 Ground.phase,Edge.mk 3 Ground.phase] none] false) (Code.seq (Code.region 7 #[Oper.mk (some 25) (Op.move (Operand.tmp 10)) 3 "vector.go:81" #[] none,Oper.mk (some 26) (Op.binOp BinOp.gtr 3 (Operand.tmp 25) (Operand.const (Value.int IntKind.i64 0)) 3) 4 "vector.go:81" #[Edge.mk 0 Ground.data] none] false) (Code.cond (Operand.tmp 26) (Code.region 8 #[Oper.mk (some 27) (Op.load 29 (Operand.tmp 6)) 29 "vector.go:82" #[] none,Oper.mk (some 28) (Op.fieldAddr 175 (Operand.tmp 9) 0) 0 "vector.go:82" #[] none,Oper.mk (some 29) (Op.load 3 (Operand.tmp 28)) 3 "vector.go:82" #[Edge.mk 1 Ground.data] none,Oper.mk (some 30) (Op.move (Operand.tmp 10)) 3 "vector.go:82" #[] none,Oper.mk (some 31) (Op.build 49 #[(0,Operand.tmp 29),(1,Operand.tmp 30)]) 49 "vector.go:82" #[Edge.mk 2 Ground.data,Edge.mk 3 Ground.data] none,Oper.mk (some 32) (Op.buildSlice 29 1 #[(0,Operand.tmp 31)]) 29 "vector.go:82" #[Edge.mk 4 Ground.data] none,Oper.mk (some 33) (Op.call (Call.mk (Callee.builtin Builtin.append) #[Operand.tmp 27,Operand.tmp 32] #[29,29])) 29 "vector.go:82" #[Edge.mk 0 Ground.data,Edge.mk 5 Ground.data] none,Oper.mk none (Op.store 29 (Operand.tmp 6) (Operand.tmp 33)) 0 "vector.go:82" #[Edge.mk 6 Ground.data,Edge.mk 6 Ground.chain,Edge.mk 0 Ground.phase,Edge.mk 1 Ground.phase,Edge.mk 2 Ground.phase,Edge.mk 3 Ground.phase,Edge.mk 4 Ground.phase,Edge.mk 5 Ground.phase,Edge.mk 6 Ground.phase] none] false) Code.skip)))),ah.box [AV.sl 2 false (au A)],ah.box [AV.sl 2 false (au B)],ah.box [iL 307],ah.box [AV.aU 7 g 0 v.length],ah.aH,ah.aH,ah.aN (g+1) 2 false (au (v++[(d,fu x y)])),ah.box [int d,int x,int y],ah.box [int d,int x,int y]]from(⟨.inl rfl,.inl rfl,.inl rfl,.inl rfl,.inl rfl,.inl rfl,.inl rfl,.inl (by simp only[gy,sN]),.inl rfl,.inl rfl,yO⟩)),kq g,kp (ay v).symm,vV ((length v+1)*16),kp (show ∀ x_1,x_1∈au (v++[(d,fu x y)])->AV.aM [] x_1=true from(bJ _))]) (fun _=>zQ))) e1 e2
 .have h:=h.2 c1;obtain⟨e1,e2⟩:=h;exact dY.to ((jI (fun _=>[kc [] bS,kf (qF c1),kp (bJ v)]) (fun _=>zQ))) e1 e2
theorem gy0 A B(d x y:Int):Y0 307 fu A B d x y:=by
 unfold Y0;by_cases h:fu x y>0
 .rw [yL h];exact dY.pY (aeH A B d x y true _ ⟨fun _=>⟨rfl,rfl⟩,fun h'=>absurd h h'⟩) ⟨.inl rfl,.inl rfl,.inl rfl,.inl rfl,.inl rfl,.inr yO,.inr yO,.inl rfl,yO⟩
 .rw [yK h];exact aeH A B d x y true _ ⟨fun h'=>absurd h' h,fun _=>⟨rfl,rfl⟩⟩
theorem gy1 A B v(g:Nat)d x y(hv:v.length<=3000000000):Y1 307 fu A B v g d x y:=by
 unfold Y1;by_cases h:fu x y>0
 .rw [yL h];exact aeI A B v g d x y true _ hv ⟨fun _=>⟨rfl,rfl⟩,fun h'=>absurd h h'⟩
 .rw [yK h];exact aeI A B v g d x y true _ hv ⟨fun h'=>absurd h' h,fun _=>⟨rfl,rfl⟩⟩
theorem ac6 a b(h:True):ak P G 122 [bB a,bB b] [] (aS.ret (AV.fn (Fn.func 161) [] [AV.ptr 0 0,AV.ptr 1 0])) [ah.box [bB a],ah.box [bB b]]:=by
 exact aj []
theorem ac7 a b:ak P G 122 [bB a,bB b] [] (.ret (.fn (.func 161) [] [.ptr 0 0,.ptr 1 0])) [.box [bB a],.box [bB b]]:=ac6 a b trivial
def PV(f:Nat)(A B:List D):St:={ aL:=aC 91 [(0,.yl 0),(1,.ptr 1 0),(2,.ptr 2 0)],H:=q0 f A B }
def K8(f:Nat)(A B:List D)(g:Nat)(v:List D):St:={ aL:=aC 91 [(0,.yl 0),(1,.ptr 1 0),(2,.ptr 2 0)],H:=q1 f A B g v }
theorem aeJ(f:Nat)(tk:Int->Int->Int)(A B:List D)(hy:∀A B d x y,dY P G 0 [.agg [int d,int x,int y]] (q0 f A B++[.box [int d,int x,int y]]) true (if tk x y>0 then q1 f A B 0 [(d,tk x y)]else q0 f A B++[.box [int d,int x,int y]]))(hA:A.length<=1000000000)(hB:B.length<=1000000000)(ex:bF)(s':St)(h:((((A.length:Int)>0)->((((B.length:Int)=0)->(∃x3:D,(A[0]?=some x3)/\(((tk x3.2 0>0)->Rq 5 161 0 (sM 91 [(0,.yl 0),(1,.ptr 1 0),(2,.ptr 2 0)] [lq,.box [bB (List.drop 1 A)],.box [bB B],.box [iL f],.box [.aU 7 0 0 1],.aH,.aH,.aN 0 2 false [[int x3.1,int (tk x3.2 0)]]]) ex s')/\((¬tk x3.2 0>0)->Rq 5 161 0 (sM 91 [(0,.yl 0),(1,.ptr 1 0),(2,.ptr 2 0)] [lq,.box [bB (List.drop 1 A)],.box [bB B],.box [iL f],.box [aK]]) ex s'))))/\((¬(B.length:Int)=0)->(∃x6:D,(A[0]?=some x6)/\(∃x8:D,(B[0]?=some x8)/\(((x6.1<x8.1)->(((tk x6.2 0>0)->Rq 5 161 0 (sM 91 [(0,.yl 0),(1,.ptr 1 0),(2,.ptr 2 0)] [lq,.box [bB (List.drop 1 A)],.box [bB B],.box [iL f],.box [.aU 7 0 0 1],.aH,.aH,.aN 0 2 false [[int x6.1,int (tk x6.2 0)]]]) ex s')/\((¬tk x6.2 0>0)->Rq 5 161 0 (sM 91 [(0,.yl 0),(1,.ptr 1 0),(2,.ptr 2 0)] [lq,.box [bB (List.drop 1 A)],.box [bB B],.box [iL f],.box [aK]]) ex s')))/\((¬x6.1<x8.1)->(((x8.1<x6.1)->(((tk 0 x8.2>0)->Rq 5 161 0 (sM 91 [(0,.yl 0),(1,.ptr 1 0),(2,.ptr 2 0)] [lq,.box [bB A],.box [bB (List.drop 1 B)],.box [iL f],.box [.aU 7 0 0 1],.aH,.aH,.aN 0 2 false [[int x8.1,int (tk 0 x8.2)]]]) ex s')/\((¬tk 0 x8.2>0)->Rq 5 161 0 (sM 91 [(0,.yl 0),(1,.ptr 1 0),(2,.ptr 2 0)] [lq,.box [bB A],.box [bB (List.drop 1 B)],.box [iL f],.box [aK]]) ex s')))/\((¬x8.1<x6.1)->(((tk x6.2 x8.2>0)->Rq 5 161 0 (sM 91 [(0,.yl 0),(1,.ptr 1 0),(2,.ptr 2 0)] [lq,.box [bB (List.drop 1 A)],.box [bB (List.drop 1 B)],.box [iL f],.box [.aU 7 0 0 1],.aH,.aH,.aN 0 2 false [[int x6.1,int (tk x6.2 x8.2)]]]) ex s')/\((¬tk x6.2 x8.2>0)->Rq 5 161 0 (sM 91 [(0,.yl 0),(1,.ptr 1 0),(2,.ptr 2 0)] [lq,.box [bB (List.drop 1 A)],.box [bB (List.drop 1 B)],.box [iL f],.box [aK]]) ex s')))))))))))/\((¬(A.length:Int)>0)->((((B.length:Int)>0)->(∃vJ:D,(B[0]?=some vJ)/\(((tk 0 vJ.2>0)->Rq 5 161 0 (sM 91 [(0,.yl 0),(1,.ptr 1 0),(2,.ptr 2 0)] [lq,.box [bB A],.box [bB (List.drop 1 B)],.box [iL f],.box [.aU 7 0 0 1],.aH,.aH,.aN 0 2 false [[int vJ.1,int (tk 0 vJ.2)]]]) ex s')/\((¬tk 0 vJ.2>0)->Rq 5 161 0 (sM 91 [(0,.yl 0),(1,.ptr 1 0),(2,.ptr 2 0)] [lq,.box [bB A],.box [bB (List.drop 1 B)],.box [iL f],.box [aK]]) ex s'))))/\((¬(B.length:Int)>0)->(bF.exit 0=ex)/\(sM 91 [] [lq,.box [bB A],.box [bB B],.box [iL f],.box [aK]]=s')))))):Rq 5 161 0 (PV f A B) ex s':=by
 have bS:=lU (ay A);let l1:List fP:=[kv 6 bS];by_cases c1:((A.length:Int)>0)
 .have h:=h.1 c1;have fT:=lU (ay B);let l2:List fP:=l1++[kt (qT c1),kO,kv 32 fT];by_cases c2:((B.length:Int)=0)
  .have h:=h.1 c2;obtain⟨x3,o4,h⟩:=h;have jw:(0:Int)<=(0:Int)/\(au A)[Int.toNat 0]?=some (aQ x3):=(bG o4);have Av:(0:Int)<=(1:Int)/\(1:Int)<=(↑(length (au A)):Int)/\(↑(length (au A)):Int)<=(↑(length (au A)):Int):=(by rw[ay];omega);let l3:List fP:=l2++[kt (nW.2 c2),kO,ko (bC.elem (aQ x3)),ko (bC.elem (aQ x3)),kp jw,kp jw,kv 60 (show Am.aF (AV.sl 2 false (List.drop 1 (List.take (Int.toNat (↑(length (au A)):Int)) (au A)))) (AV.sl 2 false (au (List.drop 1 A)))from(aF.of_eq (by simp only[ay,iI,gF,y31,take_length])))];by_cases c5:(tk x3.2 0>0)
   .have h:=h.1 c5;exact aJ (l3++[ko (bC.call [] (aS.ret (Am.bool true)) (q1 f (List.drop 1 A) B 0 [(x3.1,tk x3.2 0)])),kp Av,kp (ypC (hy (List.drop 1 A) B x3.1 x3.2 0) c5),kY]) (aB 91 [0,1,2]) 8 h
   .have h:=h.2 c5;exact aJ (l3++[ko (bC.call [] (aS.ret (Am.bool true)) (q0 f (List.drop 1 A) B++[ah.box [int x3.1,int x3.2,int 0]])),kp Av,kp (ynC (hy (List.drop 1 A) B x3.1 x3.2 0) c5),kY]) (aB 91 [0,1,2]) 5 h
  .have h:=h.2 c2;obtain⟨x6,o7,h⟩:=h;have H6:(0:Int)<=(0:Int)/\(au A)[Int.toNat 0]?=some (aQ x6):=(bG o7);obtain⟨x8,o9,h⟩:=h;have Qy:(0:Int)<=(0:Int)/\(au B)[Int.toNat 0]?=some (aQ x8):=(bG o9);let l4:List fP:=l2++[kf (qN.2 c2),kv 36 bS,kt (qT c1),ko (bC.elem (aQ x6)),ko (bC.elem (aQ x8)),kp H6,kp Qy];by_cases G9:(x6.1<x8.1)
   .have h:=h.1 G9;let l5:List fP:=l4++[kt (qT G9),ko (bC.elem (aQ x6)),ko (bC.elem (aQ x6)),kp H6,kp H6,kv 60 (show Am.aF (AV.sl 2 false (List.drop 1 (List.take (Int.toNat (↑(length (au A)):Int)) (au A)))) (AV.sl 2 false (au (List.drop 1 A)))from(aF.of_eq (by simp only[ay,iI,gF,y31,take_length])))];by_cases c11:(tk x6.2 0>0)
    .have h:=h.1 c11;exact aJ (l5++[ko (bC.call [] (aS.ret (Am.bool true)) (q1 f (List.drop 1 A) B 0 [(x6.1,tk x6.2 0)])),Ga (1:Int) (↑(length (au A)):Int) (↑(length (au A)):Int) (by rw[ay];omega),kp (ypC (hy (List.drop 1 A) B x6.1 x6.2 0) c11),kY]) (aB 91 [0,1,2]) 8 h
    .have h:=h.2 c11;exact aJ (l5++[ko (bC.call [] (aS.ret (Am.bool true)) (q0 f (List.drop 1 A) B++[ah.box [int x6.1,int x6.2,int 0]])),Ga (1:Int) (↑(length (au A)):Int) (↑(length (au A)):Int) (by rw[ay];omega),kp (ynC (hy (List.drop 1 A) B x6.1 x6.2 0) c11),kY]) (aB 91 [0,1,2]) 5 h
   .have h:=h.2 G9;let l6:List fP:=l4++[kf (qF G9),kv 63 bS,kf (show((A.length:Int)==0)=false from(qF zO)),ko (bC.elem (aQ x8)),ko (bC.elem (aQ x6)),kp Qy,kp H6];by_cases c13:(x8.1<x6.1)
    .have h:=h.1 c13;have M8:Am.aF (AV.sl 2 false (List.drop 1 (List.take (Int.toNat (↑(length (au B)):Int)) (au B)))) (AV.sl 2 false (au (List.drop 1 B))):=(aF.of_eq (by simp only[ay,iI,gF,y31,take_length]));have Pk:(0:Int)<=(1:Int)/\(1:Int)<=(↑(length (au B)):Int)/\(↑(length (au B)):Int)<=(↑(length (au B)):Int):=(by rw[ay];omega);let l7:List fP:=l6++[kt (qT c13),ko (bC.elem (aQ x8)),ko (bC.elem (aQ x8)),kp Qy,kp Qy,kv 86 M8];by_cases c14:(tk 0 x8.2>0)
     .have h:=h.1 c14;exact aJ (l7++[ko (bC.call [] (aS.ret (Am.bool true)) (q1 f A (List.drop 1 B) 0 [(x8.1,tk 0 x8.2)])),kp Pk,kp (ypC (hy A (List.drop 1 B) x8.1 0 x8.2) c14),kY]) (aB 91 [0,1,2]) 8 h
     .have h:=h.2 c14;exact aJ (l7++[ko (bC.call [] (aS.ret (Am.bool true)) (q0 f A (List.drop 1 B)++[ah.box [int x8.1,int 0,int x8.2]])),kp Pk,kp (ynC (hy A (List.drop 1 B) x8.1 0 x8.2) c14),kY]) (aB 91 [0,1,2]) 5 h
    .have h:=h.2 c13;have M8:Am.aF (AV.sl 2 false (List.drop 1 (List.take (Int.toNat (↑(length (au B)):Int)) (au B)))) (AV.sl 2 false (au (List.drop 1 B))):=(aF.of_eq (by simp only[ay,iI,gF,y31,take_length]));have Pk:(0:Int)<=(1:Int)/\(1:Int)<=(↑(length (au B)):Int)/\(↑(length (au B)):Int)<=(↑(length (au B)):Int):=(by rw[ay];omega);let l8:List fP:=l6++[kf (qF c13),ko (bC.elem (aQ x6)),ko (bC.elem (aQ x6)),ko (bC.elem (aQ x8)),kp H6,kp H6,kp Qy,kv 27 (show Am.aF (AV.sl 2 false (List.drop 1 (List.take (Int.toNat (↑(length (au A)):Int)) (au A)))) (AV.sl 2 false (au (List.drop 1 A)))from(aF.of_eq (by simp only[ay,iI,gF,y31,take_length]))),Ga (1:Int) (↑(length (au A)):Int) (↑(length (au A)):Int) (by rw[ay];omega),kv 29 M8];by_cases c15:(tk x6.2 x8.2>0)
     .have h:=h.1 c15;exact aJ (l8++[ko (bC.call [] (aS.ret (Am.bool true)) (q1 f (List.drop 1 A) (List.drop 1 B) 0 [(x6.1,tk x6.2 x8.2)])),kp Pk,kp (ypC (hy (List.drop 1 A) (List.drop 1 B) x6.1 x6.2 x8.2) c15),kY]) (aB 91 [0,1,2]) 8 h
     .have h:=h.2 c15;exact aJ (l8++[ko (bC.call [] (aS.ret (Am.bool true)) (q0 f (List.drop 1 A) (List.drop 1 B)++[ah.box [int x6.1,int x6.2,int x8.2]])),kp Pk,kp (ynC (hy (List.drop 1 A) (List.drop 1 B) x6.1 x6.2 x8.2) c15),kY]) (aB 91 [0,1,2]) 5 h
 .have h:=h.2 c1;have fT:=lU (ay B);let l9:List fP:=l1++[kf (qF c1),kv 10 fT];by_cases c16:((B.length:Int)>0)
  .have h:=h.1 c16;obtain⟨vJ,o20,h⟩:=h;have alm:(0:Int)<=(0:Int)/\(au B)[Int.toNat 0]?=some (aQ vJ):=(bG o20);let l10:List fP:=l9++[kt (qT c16),kv 32 fT,kf (show((B.length:Int)==0)=false from(qF zO)),kv 36 bS,kf (qF c1),kY,kv 63 bS,kt (show((A.length:Int)==0)=true from(qT zO)),kO,ko (bC.elem (aQ vJ)),ko (bC.elem (aQ vJ)),kp alm,kp alm,kv 86 (show Am.aF (AV.sl 2 false (List.drop 1 (List.take (Int.toNat (↑(length (au B)):Int)) (au B)))) (AV.sl 2 false (au (List.drop 1 B)))from(aF.of_eq (by simp only[ay,iI,gF,y31,take_length])))];by_cases c21:(tk 0 vJ.2>0)
   .have h:=h.1 c21;exact aJ (l10++[ko (bC.call [] (aS.ret (Am.bool true)) (q1 f A (List.drop 1 B) 0 [(vJ.1,tk 0 vJ.2)])),Ga (1:Int) (↑(length (au B)):Int) (↑(length (au B)):Int) (by rw[ay];omega),kp (ypC (hy A (List.drop 1 B) vJ.1 0 vJ.2) c21),kY]) (aB 91 [0,1,2]) 8 h
   .have h:=h.2 c21;exact aJ (l10++[ko (bC.call [] (aS.ret (Am.bool true)) (q0 f A (List.drop 1 B)++[ah.box [int vJ.1,int 0,int vJ.2]])),Ga (1:Int) (↑(length (au B)):Int) (↑(length (au B)):Int) (by rw[ay];omega),kp (ynC (hy A (List.drop 1 B) vJ.1 0 vJ.2) c21),kY]) (aB 91 [0,1,2]) 5 h
  .have h:=h.2 c16;obtain⟨eX,eS⟩:=h;exact bN.to ((show Rq 5 161 0 (PV f A B) (bF.exit 0) (sM 91 [] [lq,.box [.sl 2 false (au A)],.box [.sl 2 false (au B)],.box [iL f],.box [aK]])from aG (l9++[kf (qF c16)]) (aB 91 []) 5)) eX (eB.of_eq eS)
theorem aeK(f:Nat)(tk:Int->Int->Int)(A B:List D)(g:Nat)(v:List D)(hv:v.length<=3000000000)(hy:∀A B v g d x y,v.length<=3000000000->dY P G 0 [.agg [int d,int x,int y]] (q1 f A B g v++[.box [int d,int x,int y]]) true (if tk x y>0 then q1 f A B (g+1) (v++[(d,tk x y)])++[.box [int d,int x,int y]]else q1 f A B g v++[.box [int d,int x,int y]]))(hA:A.length<=1000000000)(hB:B.length<=1000000000)(ex:bF)(s':St)(h:((((A.length:Int)>0)->((((B.length:Int)=0)->(∃x3:D,(A[0]?=some x3)/\(((tk x3.2 0>0)->Rq 5 161 0 (sM 91 [(0,.yl 0),(1,.ptr 1 0),(2,.ptr 2 0)] [lq,.box [bB (List.drop 1 A)],.box [bB B],.box [iL f],.box [.aU 7 (g+1) 0 (length (v++[(x3.1,tk x3.2 0)]))],.aH,.aH,.aN (g+1) 2 false (au (v++[(x3.1,tk x3.2 0)]))]) ex s')/\((¬tk x3.2 0>0)->Rq 5 161 0 (sM 91 [(0,.yl 0),(1,.ptr 1 0),(2,.ptr 2 0)] [lq,.box [bB (List.drop 1 A)],.box [bB B],.box [iL f],.box [.aU 7 g 0 v.length],.aH,.aH,.aN g 2 false (au v)]) ex s'))))/\((¬(B.length:Int)=0)->(∃x6:D,(A[0]?=some x6)/\(∃x8:D,(B[0]?=some x8)/\(((x6.1<x8.1)->(((tk x6.2 0>0)->Rq 5 161 0 (sM 91 [(0,.yl 0),(1,.ptr 1 0),(2,.ptr 2 0)] [lq,.box [bB (List.drop 1 A)],.box [bB B],.box [iL f],.box [.aU 7 (g+1) 0 (length (v++[(x6.1,tk x6.2 0)]))],.aH,.aH,.aN (g+1) 2 false (au (v++[(x6.1,tk x6.2 0)]))]) ex s')/\((¬tk x6.2 0>0)->Rq 5 161 0 (sM 91 [(0,.yl 0),(1,.ptr 1 0),(2,.ptr 2 0)] [lq,.box [bB (List.drop 1 A)],.box [bB B],.box [iL f],.box [.aU 7 g 0 v.length],.aH,.aH,.aN g 2 false (au v)]) ex s')))/\((¬x6.1<x8.1)->(((x8.1<x6.1)->(((tk 0 x8.2>0)->Rq 5 161 0 (sM 91 [(0,.yl 0),(1,.ptr 1 0),(2,.ptr 2 0)] [lq,.box [bB A],.box [bB (List.drop 1 B)],.box [iL f],.box [.aU 7 (g+1) 0 (length (v++[(x8.1,tk 0 x8.2)]))],.aH,.aH,.aN (g+1) 2 false (au (v++[(x8.1,tk 0 x8.2)]))]) ex s')/\((¬tk 0 x8.2>0)->Rq 5 161 0 (sM 91 [(0,.yl 0),(1,.ptr 1 0),(2,.ptr 2 0)] [lq,.box [bB A],.box [bB (List.drop 1 B)],.box [iL f],.box [.aU 7 g 0 v.length],.aH,.aH,.aN g 2 false (au v)]) ex s')))/\((¬x8.1<x6.1)->(((tk x6.2 x8.2>0)->Rq 5 161 0 (sM 91 [(0,.yl 0),(1,.ptr 1 0),(2,.ptr 2 0)] [lq,.box [bB (List.drop 1 A)],.box [bB (List.drop 1 B)],.box [iL f],.box [.aU 7 (g+1) 0 (length (v++[(x6.1,tk x6.2 x8.2)]))],.aH,.aH,.aN (g+1) 2 false (au (v++[(x6.1,tk x6.2 x8.2)]))]) ex s')/\((¬tk x6.2 x8.2>0)->Rq 5 161 0 (sM 91 [(0,.yl 0),(1,.ptr 1 0),(2,.ptr 2 0)] [lq,.box [bB (List.drop 1 A)],.box [bB (List.drop 1 B)],.box [iL f],.box [.aU 7 g 0 v.length],.aH,.aH,.aN g 2 false (au v)]) ex s')))))))))))/\((¬(A.length:Int)>0)->((((B.length:Int)>0)->(∃vJ:D,(B[0]?=some vJ)/\(((tk 0 vJ.2>0)->Rq 5 161 0 (sM 91 [(0,.yl 0),(1,.ptr 1 0),(2,.ptr 2 0)] [lq,.box [bB A],.box [bB (List.drop 1 B)],.box [iL f],.box [.aU 7 (g+1) 0 (length (v++[(vJ.1,tk 0 vJ.2)]))],.aH,.aH,.aN (g+1) 2 false (au (v++[(vJ.1,tk 0 vJ.2)]))]) ex s')/\((¬tk 0 vJ.2>0)->Rq 5 161 0 (sM 91 [(0,.yl 0),(1,.ptr 1 0),(2,.ptr 2 0)] [lq,.box [bB A],.box [bB (List.drop 1 B)],.box [iL f],.box [.aU 7 g 0 v.length],.aH,.aH,.aN g 2 false (au v)]) ex s'))))/\((¬(B.length:Int)>0)->(bF.exit 0=ex)/\(sM 91 [] [lq,.box [bB A],.box [bB B],.box [iL f],.box [.aU 7 g 0 v.length],.aH,.aH,.aN g 2 false (au v)]=s')))))):Rq 5 161 0 (K8 f A B g v) ex s':=by
 have bS:=lU (ay A);have Qy:∀(x:List AV),x∈au v->AV.aM [] x=true:=(bJ _);let l1:List fP:=[kv 6 bS];by_cases c1:((A.length:Int)>0)
 .have h:=h.1 c1;have fT:=lU (ay B);let l2:List fP:=l1++[kt (qT c1),kO,kv 32 fT];by_cases c2:((B.length:Int)=0)
  .have h:=h.1 c2;obtain⟨x3,o4,h⟩:=h;have jw:(0:Int)<=(0:Int)/\(au A)[Int.toNat 0]?=some (aQ x3):=(bG o4);have Av:(0:Int)<=(1:Int)/\(1:Int)<=(↑(length (au A)):Int)/\(↑(length (au A)):Int)<=(↑(length (au A)):Int):=(by rw[ay];omega);let l3:List fP:=l2++[kt (nW.2 c2),kO,ko (bC.elem (aQ x3)),ko (bC.elem (aQ x3)),kp jw,kp jw,kv 60 (show Am.aF (AV.sl 2 false (List.drop 1 (List.take (Int.toNat (↑(length (au A)):Int)) (au A)))) (AV.sl 2 false (au (List.drop 1 A)))from(aF.of_eq (by simp only[ay,iI,gF,y31,take_length])))];by_cases c5:(tk x3.2 0>0)
   .have h:=h.1 c5;exact aJ (l3++[ko (bC.call [] (aS.ret (Am.bool true)) (q1 f (List.drop 1 A) B (g+1) (v++[(x3.1,tk x3.2 0)])++[ah.box [int x3.1,int x3.2,int 0]])),kp Av,kp (ypC (hy (List.drop 1 A) B v g x3.1 x3.2 0 zO) c5),kY,kp (show ∀(x:List AV),x∈au (v++[(x3.1,tk x3.2 0)])->AV.aM [] x=true from(bJ _))]) (aB 91 [0,1,2]) 8 h
   .have h:=h.2 c5;exact aJ (l3++[ko (bC.call [] (aS.ret (Am.bool true)) (q1 f (List.drop 1 A) B g v++[ah.box [int x3.1,int x3.2,int 0]])),kp Av,kp (ynC (hy (List.drop 1 A) B v g x3.1 x3.2 0 zO) c5),kY,kp Qy]) (aB 91 [0,1,2]) 8 h
  .have h:=h.2 c2;obtain⟨x6,o7,h⟩:=h;have hz9:(0:Int)<=(0:Int)/\(au A)[Int.toNat 0]?=some (aQ x6):=(bG o7);obtain⟨x8,o9,h⟩:=h;have PW:(0:Int)<=(0:Int)/\(au B)[Int.toNat 0]?=some (aQ x8):=(bG o9);let l4:List fP:=l2++[kf (qN.2 c2),kv 36 bS,kt (qT c1),ko (bC.elem (aQ x6)),ko (bC.elem (aQ x8)),kp hz9,kp PW];by_cases G9:(x6.1<x8.1)
   .have h:=h.1 G9;let l5:List fP:=l4++[kt (qT G9),ko (bC.elem (aQ x6)),ko (bC.elem (aQ x6)),kp hz9,kp hz9,kv 60 (show Am.aF (AV.sl 2 false (List.drop 1 (List.take (Int.toNat (↑(length (au A)):Int)) (au A)))) (AV.sl 2 false (au (List.drop 1 A)))from(aF.of_eq (by simp only[ay,iI,gF,y31,take_length])))];by_cases c11:(tk x6.2 0>0)
    .have h:=h.1 c11;exact aJ (l5++[ko (bC.call [] (aS.ret (Am.bool true)) (q1 f (List.drop 1 A) B (g+1) (v++[(x6.1,tk x6.2 0)])++[ah.box [int x6.1,int x6.2,int 0]])),Ga (1:Int) (↑(length (au A)):Int) (↑(length (au A)):Int) (by rw[ay];omega),kp (ypC (hy (List.drop 1 A) B v g x6.1 x6.2 0 zO) c11),kY,kp (show ∀(x:List AV),x∈au (v++[(x6.1,tk x6.2 0)])->AV.aM [] x=true from(bJ _))]) (aB 91 [0,1,2]) 8 h
    .have h:=h.2 c11;exact aJ (l5++[ko (bC.call [] (aS.ret (Am.bool true)) (q1 f (List.drop 1 A) B g v++[ah.box [int x6.1,int x6.2,int 0]])),Ga (1:Int) (↑(length (au A)):Int) (↑(length (au A)):Int) (by rw[ay];omega),kp (ynC (hy (List.drop 1 A) B v g x6.1 x6.2 0 zO) c11),kY,kp Qy]) (aB 91 [0,1,2]) 8 h
   .have h:=h.2 G9;let l6:List fP:=l4++[kf (qF G9),kv 63 bS,kf (show((A.length:Int)==0)=false from(qF zO)),ko (bC.elem (aQ x8)),ko (bC.elem (aQ x6)),kp PW,kp hz9];by_cases c13:(x8.1<x6.1)
    .have h:=h.1 c13;have agY:Am.aF (AV.sl 2 false (List.drop 1 (List.take (Int.toNat (↑(length (au B)):Int)) (au B)))) (AV.sl 2 false (au (List.drop 1 B))):=(aF.of_eq (by simp only[ay,iI,gF,y31,take_length]));have aal:(0:Int)<=(1:Int)/\(1:Int)<=(↑(length (au B)):Int)/\(↑(length (au B)):Int)<=(↑(length (au B)):Int):=(by rw[ay];omega);let l7:List fP:=l6++[kt (qT c13),ko (bC.elem (aQ x8)),ko (bC.elem (aQ x8)),kp PW,kp PW,kv 86 agY];by_cases c14:(tk 0 x8.2>0)
     .have h:=h.1 c14;exact aJ (l7++[ko (bC.call [] (aS.ret (Am.bool true)) (q1 f A (List.drop 1 B) (g+1) (v++[(x8.1,tk 0 x8.2)])++[ah.box [int x8.1,int 0,int x8.2]])),kp aal,kp (ypC (hy A (List.drop 1 B) v g x8.1 0 x8.2 zO) c14),kY,kp (show ∀(x:List AV),x∈au (v++[(x8.1,tk 0 x8.2)])->AV.aM [] x=true from(bJ _))]) (aB 91 [0,1,2]) 8 h
     .have h:=h.2 c14;exact aJ (l7++[ko (bC.call [] (aS.ret (Am.bool true)) (q1 f A (List.drop 1 B) g v++[ah.box [int x8.1,int 0,int x8.2]])),kp aal,kp (ynC (hy A (List.drop 1 B) v g x8.1 0 x8.2 zO) c14),kY,kp Qy]) (aB 91 [0,1,2]) 8 h
    .have h:=h.2 c13;have agY:Am.aF (AV.sl 2 false (List.drop 1 (List.take (Int.toNat (↑(length (au B)):Int)) (au B)))) (AV.sl 2 false (au (List.drop 1 B))):=(aF.of_eq (by simp only[ay,iI,gF,y31,take_length]));have aal:(0:Int)<=(1:Int)/\(1:Int)<=(↑(length (au B)):Int)/\(↑(length (au B)):Int)<=(↑(length (au B)):Int):=(by rw[ay];omega);let l8:List fP:=l6++[kf (qF c13),ko (bC.elem (aQ x6)),ko (bC.elem (aQ x6)),ko (bC.elem (aQ x8)),kp hz9,kp hz9,kp PW,kv 27 (show Am.aF (AV.sl 2 false (List.drop 1 (List.take (Int.toNat (↑(length (au A)):Int)) (au A)))) (AV.sl 2 false (au (List.drop 1 A)))from(aF.of_eq (by simp only[ay,iI,gF,y31,take_length]))),Ga (1:Int) (↑(length (au A)):Int) (↑(length (au A)):Int) (by rw[ay];omega),kv 29 agY];by_cases c15:(tk x6.2 x8.2>0)
     .have h:=h.1 c15;exact aJ (l8++[ko (bC.call [] (aS.ret (Am.bool true)) (q1 f (List.drop 1 A) (List.drop 1 B) (g+1) (v++[(x6.1,tk x6.2 x8.2)])++[ah.box [int x6.1,int x6.2,int x8.2]])),kp aal,kp (ypC (hy (List.drop 1 A) (List.drop 1 B) v g x6.1 x6.2 x8.2 zO) c15),kY,kp (show ∀(x:List AV),x∈au (v++[(x6.1,tk x6.2 x8.2)])->AV.aM [] x=true from(bJ _))]) (aB 91 [0,1,2]) 8 h
     .have h:=h.2 c15;exact aJ (l8++[ko (bC.call [] (aS.ret (Am.bool true)) (q1 f (List.drop 1 A) (List.drop 1 B) g v++[ah.box [int x6.1,int x6.2,int x8.2]])),kp aal,kp (ynC (hy (List.drop 1 A) (List.drop 1 B) v g x6.1 x6.2 x8.2 zO) c15),kY,kp Qy]) (aB 91 [0,1,2]) 8 h
 .have h:=h.2 c1;have fT:=lU (ay B);let l9:List fP:=l1++[kf (qF c1),kv 10 fT];by_cases c16:((B.length:Int)>0)
  .have h:=h.1 c16;obtain⟨vJ,o20,h⟩:=h;have aln:(0:Int)<=(0:Int)/\(au B)[Int.toNat 0]?=some (aQ vJ):=(bG o20);let l10:List fP:=l9++[kt (qT c16),kv 32 fT,kf (show((B.length:Int)==0)=false from(qF zO)),kv 36 bS,kf (qF c1),kY,kv 63 bS,kt (show((A.length:Int)==0)=true from(qT zO)),kO,ko (bC.elem (aQ vJ)),ko (bC.elem (aQ vJ)),kp aln,kp aln,kv 86 (show Am.aF (AV.sl 2 false (List.drop 1 (List.take (Int.toNat (↑(length (au B)):Int)) (au B)))) (AV.sl 2 false (au (List.drop 1 B)))from(aF.of_eq (by simp only[ay,iI,gF,y31,take_length])))];by_cases c21:(tk 0 vJ.2>0)
   .have h:=h.1 c21;exact aJ (l10++[ko (bC.call [] (aS.ret (Am.bool true)) (q1 f A (List.drop 1 B) (g+1) (v++[(vJ.1,tk 0 vJ.2)])++[ah.box [int vJ.1,int 0,int vJ.2]])),Ga (1:Int) (↑(length (au B)):Int) (↑(length (au B)):Int) (by rw[ay];omega),kp (ypC (hy A (List.drop 1 B) v g vJ.1 0 vJ.2 zO) c21),kY,kp (show ∀(x:List AV),x∈au (v++[(vJ.1,tk 0 vJ.2)])->AV.aM [] x=true from(bJ _))]) (aB 91 [0,1,2]) 8 h
   .have h:=h.2 c21;exact aJ (l10++[ko (bC.call [] (aS.ret (Am.bool true)) (q1 f A (List.drop 1 B) g v++[ah.box [int vJ.1,int 0,int vJ.2]])),Ga (1:Int) (↑(length (au B)):Int) (↑(length (au B)):Int) (by rw[ay];omega),kp (ynC (hy A (List.drop 1 B) v g vJ.1 0 vJ.2 zO) c21),kY,kp Qy]) (aB 91 [0,1,2]) 8 h
  .have h:=h.2 c16;obtain⟨eX,eS⟩:=h;exact bN.to ((show Rq 5 161 0 (K8 f A B g v) (bF.exit 0) (sM 91 [] [lq,.box [.sl 2 false (au A)],.box [.sl 2 false (au B)],.box [iL f],.box [.aU 7 g 0 v.length],.aH,.aH,.aN g 2 false (au v)])from aG (l9++[kf (qF c16)]) (aB 91 []) 8)) eX (eB.of_eq eS)
def qM:Nat->List D->List D->List (Int×Int×Int)
 |0,_,_=>[]
 |_+1,[],[]=>[]
 |n+1,x::a,[]=>(x.1,x.2,0)::qM n a []
 |n+1,[],y::b=>(y.1,0,y.2)::qM n [] b
 |n+1,x::a,y::b=>if x.1<y.1 then(x.1,x.2,0)::qM n a (y::b)else if y.1<x.1 then(y.1,0,y.2)::qM n (x::a) b else(x.1,x.2,y.2)::qM n a b
theorem AU:∀(n:Nat)a b,(qM n a b).length<=n
 |0,_,_=>yM
 |_+1,[],[]=>yN
 |n+1,x::a,[]=>by simp only[qM,yE];have:=AU n a [];omega
 |n+1,[],y::b=>by simp only[qM,yE];have:=AU n [] b;omega
 |n+1,x::a,y::b=>by
  have h1:=AU n (x::a) b;have h2:=AU n a (y::b);have h3:=AU n a b;simp only[qM];grind
def lV(tk:Int->Int->Int)(p:Int×Int×Int):Option D:=if tk p.2.1 p.2.2>0 then some (p.1,tk p.2.1 p.2.2)else none
def Ck(A B:List D)(p:Int×Int×Int)(A' B':List D):Prop:=A'.length+B'.length+1<=A.length+B.length/\A'.length<=A.length/\B'.length<=B.length/\∀n,qM (n+1) A B=p::qM n A' B'
theorem Ux A B :
 (∀x,A[0]?=some x->B.length=0->Ck A B (x.1,x.2,0) (A.drop 1) B) /\
 (∀x y,A[0]?=some x->B[0]?=some y->x.1<y.1->Ck A B (x.1,x.2,0) (A.drop 1) B) /\
 (∀x y,A[0]?=some x->B[0]?=some y->¬x.1<y.1->y.1<x.1->Ck A B (y.1,0,y.2) A (B.drop 1)) /\
 (∀x y,A[0]?=some x->B[0]?=some y->¬x.1<y.1->¬y.1<x.1->Ck A B (x.1,x.2,y.2) (A.drop 1) (B.drop 1)) /\
 (∀y,A.length=0->B[0]?=some y->Ck A B (y.1,0,y.2) A (B.drop 1)):=by
 have hd:∀{l:List D}{x},l[0]?=some x->l=x::l.drop 1:=fun{l x} h=>by
  cases l with
  |nil=>simp at h
  |cons y t=>simp at h;simp[h]
 refine⟨fun x hx hb=>?_,fun x y hx hy h1=>?_,fun x y hx hy h1 h2=>?_,fun x y hx hy h1 h2=>?_,fun y ha hy=>?_⟩
 .have eb:=y02 hb;subst eb;have ea:=hd hx;generalize hA:A.drop 1=A' at ea;subst ea;exact⟨zS,zS,zS,fun n=>rfl⟩
 .have ea:=hd hx;generalize hA:A.drop 1=A' at ea;subst ea;have eb:=hd hy;generalize hB:B.drop 1=B' at eb;subst eb;exact⟨by simp;omega,zS,zS,fun n=>by simp only[qM];rw[yL h1]⟩
 .have ea:=hd hx;generalize hA:A.drop 1=A' at ea;subst ea;have eb:=hd hy;generalize hB:B.drop 1=B' at eb |-;subst eb;exact⟨by simp;omega,zS,zS,fun n=>by simp only[qM];grind⟩
 .have ea:=hd hx;generalize hA:A.drop 1=A' at ea |-;subst ea;have eb:=hd hy;generalize hB:B.drop 1=B' at eb |-;subst eb;exact⟨by simp;omega,zS,zS,fun n=>by simp only[qM];grind⟩
 .have ea:=y02 ha;subst ea;have eb:=hd hy;generalize hB:B.drop 1=B' at eb |-;subst eb;exact⟨zS,zS,zS,fun n=>rfl⟩
def aam(f g:Nat)(v:List D):St:={ aL:=aC 91 [],H:=q1 f [] [] g v }
def Uy(f:Nat)(t:List D):St:={ aL:=aC 91 [],H:=if t=[]then q0 f [] []else q1 f [] [] (t.length-1) t }
section
variable (f:Nat) (tk:Int->Int->Int)
 (hy0:∀A B d x y,dY P G 0 [.agg [int d,int x,int y]] (q0 f A B++[.box [int d,int x,int y]]) true (if tk x y>0 then q1 f A B 0 [(d,tk x y)]else q0 f A B++[.box [int d,int x,int y]]))
 (hy1:∀A B v g d x y,v.length<=3000000000->dY P G 0 [.agg [int d,int x,int y]] (q1 f A B g v++[.box [int d,int x,int y]]) true (if tk x y>0 then q1 f A B (g+1) (v++[(d,tk x y)])++[.box [int d,int x,int y]]else q1 f A B g v++[.box [int d,int x,int y]]))
 include hy1
theorem aan:∀n A B g v,A.length+B.length<=n->A.length<=1000000000->B.length<=1000000000->v.length+n<=3000000000 ->
 Rq 5 161 0 (K8 f A B g v) (.exit 0) (aam f (g+((qM n A B).filterMap (lV tk)).length) (v++(qM n A B).filterMap (lV tk))):=by
 intro n
 induction n with
 |zero =>
  intro A B g v hn hA hB hv;have ea:A=[]:=y02 zO;have eb:B=[]:=y02 zO;subst ea eb;refine aeK f tk [] [] g v zO hy1 hA hB _ _ ⟨fun h=>absurd h zS,fun _=>⟨fun h=>absurd h zS,fun _=>⟨rfl,?_⟩⟩⟩;simp only[qM,filterMap_nil,y23,y14,Nat.add_zero];rfl
 |succ n ih =>
  intro A B g v hn hA hB hv;obtain⟨s1,s2,s3,s4,s5⟩:=Ux A B;have fin:∀{p A' B'},Ck A B p A' B' ->
   (tk p.2.1 p.2.2>0->Rq 5 161 0 (K8 f A' B' (g+1) (v++[(p.1,tk p.2.1 p.2.2)])) (.exit 0) (aam f (g+((qM (n+1) A B).filterMap (lV tk)).length) (v++(qM (n+1) A B).filterMap (lV tk)))) /\
   (¬tk p.2.1 p.2.2>0->Rq 5 161 0 (K8 f A' B' g v) (.exit 0) (aam f (g+((qM (n+1) A B).filterMap (lV tk)).length) (v++(qM (n+1) A B).filterMap (lV tk)))):=fun{p A' B'} h=>by
   refine⟨fun hp=>?_,fun hp=>?_⟩
   .have:=ih A' B' (g+1) (v++[(p.1,tk p.2.1 p.2.2)]) (by have:=h.1;omega) (by have:=h.2.1;omega) (by have:=h.2.2.1;omega) (by simp;omega);have e:lV tk p=some (p.1,tk p.2.1 p.2.2):=yL hp;rw[h.2.2.2 n,filterMap_cons_some e,yE,show g+(((qM n A' B').filterMap (lV tk)).length+1)=g+1+((qM n A' B').filterMap (lV tk)).length by omega,show v++(p.1,tk p.2.1 p.2.2)::(qM n A' B').filterMap (lV tk)=v++[(p.1,tk p.2.1 p.2.2)]++(qM n A' B').filterMap (lV tk) by simp];exact this
   .have:=ih A' B' g v (by have:=h.1;omega) (by have:=h.2.1;omega) (by have:=h.2.2.1;omega) zO;have e:lV tk p=none:=yK hp;rw[h.2.2.2 n,filterMap_cons_none e];exact this
  have gx:∀{l:List D},((l.length:Int)>0)->∃x,l[0]?=some x:=fun h=>⟨_,yA zO⟩;refine aeK f tk A B g v zO hy1 hA hB _ _ ⟨fun h=>?_,fun h=>⟨fun h'=>?_,fun h'=>⟨rfl,?_⟩⟩⟩
  .obtain ⟨x,hx⟩:=gx h;refine⟨fun h'=>⟨x,hx,fin (s1 x hx zO)⟩,fun h'=>?_⟩;obtain⟨y,hy⟩:=gx (l:=B) zO;exact⟨x,hx,y,hy,⟨fun h1=>fin (s2 x y hx hy h1),fun h1=>⟨fun h2=>fin (s3 x y hx hy h1 h2),fun h2=>fin (s4 x y hx hy h1 h2)⟩⟩⟩
  .obtain ⟨y,hy⟩:=gx h';exact⟨y,hy,fin (s5 y zO hy)⟩
  .have ea:A=[]:=y02 zO;have eb:B=[]:=y02 zO;subst ea eb;simp only[qM,filterMap_nil,y23,y14,Nat.add_zero];rfl
 include hy0
theorem aao:∀n A B,A.length+B.length<=n->A.length<=1000000000->B.length<=1000000000->n<=2000000000 ->
 Rq 5 161 0 (PV f A B) (.exit 0) (Uy f ((qM n A B).filterMap (lV tk))):=by
 intro n
 induction n with
 |zero =>
  intro A B hn hA hB hv;have ea:A=[]:=y02 zO;have eb:B=[]:=y02 zO;subst ea eb;refine aeJ f tk [] [] hy0 hA hB _ _ ⟨fun h=>absurd h zS,fun _=>⟨fun h=>absurd h zS,fun _=>⟨rfl,?_⟩⟩⟩;rfl
 |succ n ih =>
  intro A B hn hA hB hv;obtain⟨s1,s2,s3,s4,s5⟩:=Ux A B;have fin:∀{p A' B'},Ck A B p A' B' ->
   (tk p.2.1 p.2.2>0->Rq 5 161 0 (K8 f A' B' 0 [(p.1,tk p.2.1 p.2.2)]) (.exit 0) (Uy f ((qM (n+1) A B).filterMap (lV tk)))) /\
   (¬tk p.2.1 p.2.2>0->Rq 5 161 0 (PV f A' B') (.exit 0) (Uy f ((qM (n+1) A B).filterMap (lV tk)))):=fun{p A' B'} h=>by
   refine⟨fun hp=>?_,fun hp=>?_⟩
   .have:=aan f tk hy1 n A' B' 0 [(p.1,tk p.2.1 p.2.2)] (by have:=h.1;omega) (by have:=h.2.1;omega) (by have:=h.2.2.1;omega) (by simp;omega);have e:lV tk p=some (p.1,tk p.2.1 p.2.2):=yL hp;rw[h.2.2.2 n,filterMap_cons_some e];have fF:¬(p.1,tk p.2.1 p.2.2)::(qM n A' B').filterMap (lV tk)=[]:=zS
    unfold Uy;rw[yK fF];rw[y12]at this;exact this
   .have:=ih A' B' (by have:=h.1;omega) (by have:=h.2.1;omega) (by have:=h.2.2.1;omega) zO;have e:lV tk p=none:=yK hp;rw[h.2.2.2 n,filterMap_cons_none e];exact this
  have gx:∀{l:List D},((l.length:Int)>0)->∃x,l[0]?=some x:=fun h=>⟨_,yA zO⟩;refine aeJ f tk A B hy0 hA hB _ _ ⟨fun h=>?_,fun h=>⟨fun h'=>?_,fun h'=>⟨rfl,?_⟩⟩⟩
  .obtain ⟨x,hx⟩:=gx h;refine⟨fun h'=>⟨x,hx,fin (s1 x hx zO)⟩,fun h'=>?_⟩;obtain⟨y,hy⟩:=gx (l:=B) zO;exact⟨x,hx,y,hy,⟨fun h1=>fin (s2 x y hx hy h1),fun h1=>⟨fun h2=>fin (s3 x y hx hy h1 h2),fun h2=>fin (s4 x y hx hy h1 h2)⟩⟩⟩
  .obtain ⟨y,hy⟩:=gx h';exact⟨y,hy,fin (s5 y zO hy)⟩
  .have ea:A=[]:=y02 zO;have eb:B=[]:=y02 zO;subst ea eb;rfl
end
def dD(tk:Int->Int->Int)(a b:List D):List D:=(qM (a.length+b.length) a b).filterMap (lV tk)
theorem alo a b(ha:a.length<=1000000000)(hb:b.length<=1000000000):Rq 5 161 0 (PV 307 a b) (.exit 0) { aL:=aC 91 [],H:=if dD fu a b=[]then q0 307 [] []else q1 307 [] [] ((dD fu a b).length-1) (dD fu a b) } :=
 aao 307 fu gy0 gy1 _ a b yM ha hb zO
theorem agZ a b(ha:a.length<=1000000000)(hb:b.length<=1000000000)(h:(((dD fu a b=[])->[lq,ah.box [AV.sl 2 false []],ah.box [AV.sl 2 false []],ah.box [iL 307],ah.box [aK]]=if dD fu a b=[]then q0 307 [] []else q1 307 [] [] (length (dD fu a b)-1) (dD fu a b))/\((¬dD fu a b=[])->[lq,ah.box [AV.sl 2 false []],ah.box [AV.sl 2 false []],ah.box [iL 307],ah.box [AV.aU 7 (length (dD fu a b)-1) 0 (length (dD fu a b))],ah.aH,ah.aH,ah.aN (length (dD fu a b)-1) 2 false (au (dD fu a b))]=if dD fu a b=[]then q0 307 [] []else q1 307 [] [] (length (dD fu a b)-1) (dD fu a b)))):ak P G 161 [.yl 0,.ptr 1 0,.ptr 2 0] (q0 307 a b) (aS.ret (AV.bq [])) (if dD fu a b=[]then q0 307 [] []else q1 307 [] [] (length (dD fu a b)-1) (dD fu a b)):=by
 by_cases c1:(dD fu a b=[])
 .have h:=h.1 c1;have eH:=h;exact ak.heap ((aj [kl (rG [(3,88)]) 5 (show Rq 5 161 0 (sM 91 [(0,.yl 0),(1,.ptr 1 0),(2,.ptr 2 0)] [lq,.box [.sl 2 false (au a)],.box [.sl 2 false (au b)],.box [iL 307],.box [aK]]) (bF.exit 0) (sM 91 [] [lq,.box [.sl 2 false []],.box [.sl 2 false []],.box [iL 307],.box [aK]])from(by have h0:=(@alo (a) (b) zO zO);simp only[yL c1]at h0;exact h0))])) eH
 .have h:=h.2 c1;have eH:=h;exact ak.heap ((aj [kl (rG [(3,88)]) 5 (show Rq 5 161 0 (sM 91 [(0,.yl 0),(1,.ptr 1 0),(2,.ptr 2 0)] [lq,.box [.sl 2 false (au a)],.box [.sl 2 false (au b)],.box [iL 307],.box [aK]]) (bF.exit 0) (sM 91 [] [lq,.box [.sl 2 false []],.box [.sl 2 false []],.box [iL 307],.box [.aU 7 (length (dD fu a b)-1) 0 (length (dD fu a b))],.aH,.aH,.aN (length (dD fu a b)-1) 2 false (au (dD fu a b))])from(by have h0:=(@alo (a) (b) zO zO);simp only[yK c1]at h0;exact h0))])) eH
theorem aap a b(ha:a.length<=1000000000)(hb:b.length<=1000000000):ak P G 161 [.yl 0,.ptr 1 0,.ptr 2 0] (q0 307 a b) (.ret (.bq [])) (if dD fu a b=[]then q0 307 [] []else q1 307 [] [] ((dD fu a b).length-1) (dD fu a b)) :=
 agZ a b ha hb ⟨fun h=>by rw[yL h];rfl,fun h=>by rw[yK h];rfl⟩
theorem aoN a b(ha:a.length<=1000000000)(hb:b.length<=1000000000)(he:fM a b=0)(h:(((dD fu a b=[])->([])=(dD fu a b))/\((¬dD fu a b=[])->True))):Cq 91 [.agg [rl 307],bB a,bB b] (.bq [bB (dD fu a b),int 0]):=by
 have bS:=(@PX (a) (b) zO zO);have jw:=(@ac7 (a) (b));let l1:List fP:=[kc [] bS,kf (show(fM a b != 0)=false from(y32 (qT zO))),kc [] jw,ko (bC.range [0,1,2,4,5,7,8,9,10,11,12,13,14,15,16,17,18,19,20,21,22,23,24,25,26,27,28,29,30,31,32,33,34] 0 none bF.normal [] [])];by_cases c2:(dD fu a b=[])
 .have h:=h.1 c2;have e1:=h;exact ak.out ((show Cq 91 [.agg [rl 307],bB a,bB b] (.bq [aK,int 0])from aj (l1++[kc [5,2,3,0,1] (show ak P G 161 [.yl 0,.ptr 1 0,.ptr 2 0] [ah.iV LoopState.ready none (aC 35 [(3,AV.ptr 3 0),(6,AV.ptr 4 0)]) (Array.mk [20]) (Code.region 5 #[Oper.mk (some 9) (Op.alloc 175) 0 "vector.go:80" #[] none,Oper.mk none (Op.store 175 (Operand.tmp 9) (Operand.tmp 20)) 0 "vector.go:80" #[Edge.mk 0 Ground.data,Edge.mk 0 Ground.phase] none] false) (uT P 91 0),ah.box [AV.sl 2 false (au a)],ah.box [AV.sl 2 false (au b)],ah.box [iL 307],ah.box [aK]] (aS.ret (AV.bq [])) [lq,ah.box [AV.sl 2 false []],ah.box [AV.sl 2 false []],ah.box [iL 307],ah.box [aK]]from(by have h0:=(@aap (a) (b) zO zO);simp only[yL c2]at h0;exact h0))]))) (aF.iM ⟨(aF.nil_eq (yJ (List.map aQ) e1)),y34,yO⟩)
 .have h:=h.2 c2;exact aj (l1++[kc [5,2,3,0,1] (show ak P G 161 [.yl 0,.ptr 1 0,.ptr 2 0] [ah.iV LoopState.ready none (aC 35 [(3,AV.ptr 3 0),(6,AV.ptr 4 0)]) (Array.mk [20]) (Code.region 5 #[Oper.mk (some 9) (Op.alloc 175) 0 "vector.go:80" #[] none,Oper.mk none (Op.store 175 (Operand.tmp 9) (Operand.tmp 20)) 0 "vector.go:80" #[Edge.mk 0 Ground.data,Edge.mk 0 Ground.phase] none] false) (uT P 91 0),ah.box [AV.sl 2 false (au a)],ah.box [AV.sl 2 false (au b)],ah.box [iL 307],ah.box [aK]] (aS.ret (AV.bq [])) [lq,ah.box [AV.sl 2 false []],ah.box [AV.sl 2 false []],ah.box [iL 307],ah.box [AV.aU 7 (length (dD fu a b)-1) 0 (length (dD fu a b))],ah.aH,ah.aH,ah.aN (length (dD fu a b)-1) 2 false (au (dD fu a b))]from(by have h0:=(@aap (a) (b) zO zO);simp only[yK c2]at h0;exact h0)),ko (bC.fz (some 34) (au (dD fu a b))),kp (show ∀(x:List AV),x∈au (dD fu a b)->AV.aM [] x=true from(bJ _)),kp (show length (dD fu a b)-1=length (dD fu a b)-1 from(rfl)),kp (show List.take (length (dD fu a b)) (List.drop 0 (au (dD fu a b)))=au (dD fu a b)from(dW _)),kp (show length (au (dD fu a b))=length (dD fu a b)from(ay _)),kp (show ∀(c:List AV),c∈au (dD fu a b)->List.all c AV.fJ=true from(bK _))])
def aaq(a b:List D)(d:Int):Option D:=some (d,if gI d b>gI d a then gI d b else gI d a)
def aar(a b:List D):List D:=(alp a b).filterMap (aaq a b)
theorem aoO a b(ha:a.length<=1000000000)(hb:b.length<=1000000000)(he:fM a b=0):Cq 91 [.agg [rl 307],bB a,bB b] (.bq [bB (dD fu a b),int 0]) :=
 aoN a b ha hb he ⟨fun h=>h.symm,fun _=>trivial⟩
theorem aoP a b(ha:a.length<=1000000000)(hb:b.length<=1000000000)(he:¬fM a b=0)f(h:True):Cq 91 [.agg [rl f],bB a,bB b] (.bq [bB [],int (fM a b)]):=by
 exact ak.out ((show Cq 91 [.agg [rl f],bB a,bB b] (.bq [aK,int (fM a b)])from aj [kc [] (@PX (a) (b) zO zO),kt (((y32 (qF zO))))])) (aF.iM ⟨(aF.nil _),y34,yO⟩)
theorem alq(f:Nat)a b(ha:a.length<=1000000000)(hb:b.length<=1000000000)(he:¬fM a b=0):Cq 91 [.agg [rl f],bB a,bB b] (.bq [bB [],int (fM a b)]):=aoP a b ha hb he f trivial
def uK(a b:List D):List D:=if fM a b=0 then dD fu a b else[]
theorem aoQ a b(ha:a.length<=1000000000)(hb:b.length<=1000000000):Cq 91 [.agg [rl 307],bB a,bB b] (.bq [bB (uK a b),int (fM a b)]):=by
 unfold uK;by_cases h:fM a b=0
 .grind [aoO]
 .grind [alq]
theorem ag0 a b(ha:a.length<=1000000000)(hb:b.length<=1000000000)(h:True):Cq 58 [bB a,bB b] (.bq [bB (uK a b),int (fM a b)]):=by
 exact aj [kc [] (@aoQ (a) (b) zO zO)]
theorem ag1 a b(ha:a.length<=1000000000)(hb:b.length<=1000000000):Cq 58 [bB a,bB b] (.bq [bB (uK a b),int (fM a b)]):=ag0 a b ha hb trivial
theorem ag2 a(x y:Int)(ha:a.length<=1000000000)(h:True):Cq 29 [bB a,eG (x,y)] (.bq [bB (uK a [(x,y)]),int (fM a [(x,y)])]):=by
 exact aj [kc [] (show Cq 58 [.sl 2 false (au a),.sl 2 true [[int x,int y]]] (.bq [.sl 2 false (au (uK a [(x,y)])),int (fM a [(x,y)])])from(ak.qp (@ag1 (a) ([(x,y)]) zO (by simp only[yE,y14]<;>omega)) ⟨y34,aF.oP _ _ _,yO⟩))]
theorem Q6 a(x y:Int)(ha:a.length<=1000000000):Cq 29 [bB a,eG (x,y)] (.bq [bB (uK a [(x,y)]),int (fM a [(x,y)])]):=ag2 a x y ha trivial
def aeL(ps:List (Int×Int×Int)):Bool:=ps.any fun p=>decide (p.2.1<p.2.2)
def alr(ps:List (Int×Int×Int)):Bool:=ps.any fun p=>decide (p.2.1>p.2.2)
def aas(a b:List D):Bool:=aeL (qM (a.length+b.length) a b)
def aeM(a b:List D):Bool:=alr (qM (a.length+b.length) a b)
def gJ(a b:List D):Int:=if aas a b=true then(if aeM a b=true then 2 else -1)else if aeM a b=true then 1 else 0
end Go.bH
namespace Go.bV
open Go Go.Am Go.Proofs Go.eY Go.bH Go.yU
def zK:AV:=.lit (.agg #[.int .i64 0,.nilFunc])
theorem Sm k(h : -9223372036854775808<=k/\k<9223372036854775808):∃l,keyOf P 3 (.int .i64 k)=some l :=
 ⟨_,Maps.keyOf_int_mk Tryz.underlying3 (by simp[Lit.wf,IntKind.min,IntKind.signed,IntKind.bits];omega)⟩
theorem PY:∀e∈iF,∃l,keyOf P 3 e.1=some l:=by
 intro e he;simp only[iF,yH,y15,or_false]at he;rcases he with rfl|rfl|rfl|rfl|rfl|rfl|rfl|rfl<;>exact Sm _ zD
def partOf(k:Int):Int:=if k=1\/k=2 then 1 else if k=3\/k=4 then 2 else if k=5 then 3 else if k=6\/k=7\/k=8 then 4 else 0
theorem kg{k p}{f}(hk : -9223372036854775808<=k/\k<9223372036854775808)(h:(.int .i64 k,.agg [int p,gP f])∈iF):bT P 3 iF (.int .i64 k) zK (.agg [int p,gP f]) true :=
 ⟨Maps.int_keyed Tryz.underlying3,Sm k hk,PY,.inl ⟨rfl,h⟩⟩
theorem kg1:bT P 3 iF (.int .i64 1) zK (.agg [int 1,gP 297]) true:=kg zD (by simp[iF])
theorem kg2:bT P 3 iF (.int .i64 2) zK (.agg [int 1,gP 299]) true:=kg zD (by simp[iF])
theorem kg3:bT P 3 iF (.int .i64 3) zK (.agg [int 2,gP 301]) true:=kg zD (by simp[iF])
theorem kg4:bT P 3 iF (.int .i64 4) zK (.agg [int 2,gP 302]) true:=kg zD (by simp[iF])
theorem kg5:bT P 3 iF (.int .i64 5) zK (.agg [int 3,gP 303]) true:=kg zD (by simp[iF])
theorem kg6:bT P 3 iF (.int .i64 6) zK (.agg [int 4,gP 304]) true:=kg zD (by simp[iF])
theorem kg7:bT P 3 iF (.int .i64 7) zK (.agg [int 4,gP 305]) true:=kg zD (by simp[iF])
theorem kg8:bT P 3 iF (.int .i64 8) zK (.agg [int 4,gP 306]) true:=kg zD (by simp[iF])
theorem kgn k(hk : -9223372036854775808<=k/\k<9223372036854775808)(h:k<1\/8<k):bT P 3 iF (.int .i64 k) zK zK false :=
 ⟨Maps.int_keyed Tryz.underlying3,Sm k hk,PY,.inr ⟨rfl,rfl,fun e he=>by
  simp only[iF,yH,or_false]at he;grind⟩⟩
theorem aoR(o:OP)l(f:Int)(hw:Cq 29 [aK,eG (o.dv,o.sq)] (.bq [bB l,int f]))(hf:¬f=0)(h:True):Cq 31 [op o] (int 170):=by
 exact aj [kc [] hw,kt (y32 (qF zO)),kO,kO,kO,kO]
theorem aoS(o:OP)l(hw:Cq 29 [aK,eG (o.dv,o.sq)] (.bq [bB l,int 0]))(ht:o.tm<1)(h:True):Cq 31 [op o] (int 170):=by
 exact aj [kc [] hw,kY,ki (o.tm<1),kO,kO,kO]
theorem aoT(o:OP)l(hw:Cq 29 [aK,eG (o.dv,o.sq)] (.bq [bB l,int 0]))(ht:1<=o.tm)(ht2:1099511627776<o.tm)(h:True):Cq 31 [op o] (int 170):=by
 exact aj [kc [] hw,kY,kj (o.tm<1),ki (o.tm>1099511627776),kO,kO]
theorem F9(o:OP)l(f:Int)(hw:Cq 29 [aK,eG (o.dv,o.sq)] (.bq [bB l,int 0]))(ht:1<=o.tm)(ht2:o.tm<=1099511627776)(hv:Cq 46 [bB o.cx] (int f))(hf:¬f=0)(h:True):Cq 31 [op o] (int 170):=by
 exact aj [kc [] hw,kY,kj (o.tm<1),kj (o.tm>1099511627776),kc [] hv,kt (y32 (qF zO)),kO]
theorem jg(o:OP)l(hw:Cq 29 [aK,eG (o.dv,o.sq)] (.bq [bB l,int 0]))(ht:1<=o.tm)(ht2:o.tm<=1099511627776)(hv:Cq 46 [bB o.cx] (int 0))(hc:Cq 28 [bB o.cx,eG (o.dv,o.sq)] (bool true))(h:True):Cq 31 [op o] (int 170):=by
 exact aj [kc [] hw,kY,kj (o.tm<1),kj (o.tm>1099511627776),kc [] hv,kY,kc [] hc,kO]
theorem aoU(o:OP)(l:List D)(hw:Cq 29 [aK,eG (o.dv,o.sq)] (.bq [bB l,int 0]))(ht:1<=o.tm)(ht2:o.tm<=1099511627776)(hv:Cq 46 [bB o.cx] (int 0))(hc:Cq 28 [bB o.cx,eG (o.dv,o.sq)] (bool false))(hm:bT P 3 iF (.int .i64 o.kd) zK zK false)(h:True):Cq 31 [op o] (int 170):=by
 exact aj [kc [] hw,kY,kj (o.tm<1),kj (o.tm>1099511627776),kc [] hv,kY,kc [] hc,kY,ko (bC.lJ zK false),kp hm,kO,kO,kO,kO,kO]
theorem PZ{k p:Int}{F:Nat}(hF:k=1/\F=297\/k=2/\F=299\/k=3/\F=301\/k=4/\F=302\/k=5/\F=303\/k=6/\F=304\/k=7/\F=305\/k=8/\F=306)(hM:bT P 3 iF (.int .i64 k) zK (.agg [int p,gP F]) true)(o:OP)(l:List D)(b:Bool)(v:Int)(hcx:o.cx.length<=1000000000)(hw:Cq 29 [aK,eG (o.dv,o.sq)] (.bq [bB l,int 0]))(ht:1<=o.tm)(ht2:o.tm<=1099511627776)(hv:Cq 46 [bB o.cx] (int 0))(hc:Cq 28 [bB o.cx,eG (o.dv,o.sq)] (bool false))(hk:Cq F [Ki o k] (bool b))(hr:Cq 60 [Ki o k] (op (mQ o k)))(hs:Cq 59 [op (mQ o k),op Kj] (bool (decide (mQ o k=Kj))))(h:(((o.pk=p)->((((↑(ByteArray.size o.pn):Int)>64)->170=v)/\((¬(↑(ByteArray.size o.pn):Int)>64)->((((b)=true)->(((mQ o k=Kj)->0=v)/\((¬mQ o k=Kj)->170=v)))/\(((b)=false)->170=v)))))/\((¬o.pk=p)->170=v))):Cq 31 [Ki o k] (int v):=by
 let x0:AV:=AV.agg [int p,gP F];let r0:=mQ o k;rcases hF with⟨rfl,rfl⟩|⟨rfl,rfl⟩|⟨rfl,rfl⟩|⟨rfl,rfl⟩|⟨rfl,rfl⟩|⟨rfl,rfl⟩|⟨rfl,rfl⟩|⟨rfl,rfl⟩
 all_goals
  have fT:decide (o.tm<1)=false:=(qF zO);have jw:decide (o.tm>1099511627776)=false:=(qF zO);have PW:Cq 59 [.agg [int (OP.dv (r0)),int (OP.sq (r0)),int (OP.tm (r0)),.sl 2 false [],int (OP.pk (r0)),str (OP.pn (r0)),int (OP.kd (r0)),int (OP.f1 (r0)),int (OP.f2 (r0)),int (OP.f3 (r0)),int (OP.t1 (r0)),int (OP.t2 (r0)),int (OP.t3 (r0)),str (OP.ky (r0)),str (OP.vl (r0)),int (OP.n (r0)),Am.bool (OP.on (r0))],.agg [int 0,int 0,int 0,aK,int 0,str (ByteArray.mk #[]),int 0,int 0,int 0,int 0,int 0,int 0,int 0,str (ByteArray.mk #[]),str (ByteArray.mk #[]),int 0,Am.bool false]] (Am.bool (decide (r0=Kj))):=(ak.qp hs ⟨y34,aF.qo ⟨y34,y34,y34,(aF.nil _),y34,y34,y34,y34,y34,y34,y34,y34,y34,y34,y34,y34,y34,yO⟩,yO⟩);by_cases c3:(o.pk=p)
  .have h:=h.1 c3;have OG:(o.pk != p)=false:=(y32 (nW.2 c3));by_cases c4:((↑(ByteArray.size o.pn):Int)>64)
   .have h:=h.1 c4;exact aA (aF.int_eq h) [kc [] hw,kY,kf fT,kf jw,kc [] hv,kY,kc [] hc,kY,ko (bC.lJ x0 true),kp hM,kY,kf OG,kt (qT c4),kO,kO]
   .have h:=h.2 c4;rcases y00 ((b))with c5|c5
    .have h:=h.1 c5;have Qy:=(y32 (c5));by_cases c6:(r0=Kj)
     .have h:=h.1 c6;exact aA (aF.int_eq h) [kc [] hw,kY,kf fT,kf jw,kc [] hv,kY,kc [] hc,kY,ko (bC.lJ x0 true),kp hM,kY,kf OG,kf (qF c4),kc [] hk,kf Qy,kc [] hr,kc [] PW,kf (y32 (qT c6))]
     .have h:=h.2 c6;exact aA (aF.int_eq h) [kc [] hw,kY,kf fT,kf jw,kc [] hv,kY,kc [] hc,kY,ko (bC.lJ x0 true),kp hM,kY,kf OG,kf (qF c4),kc [] hk,kf Qy,kc [] hr,kc [] PW,kt (y32 (qF c6))]
    .have h:=h.2 c5;exact aA (aF.int_eq h) [kc [] hw,kY,kf fT,kf jw,kc [] hv,kY,kc [] hc,kY,ko (bC.lJ x0 true),kp hM,kY,kf OG,kf (qF c4),kc [] hk,kt (y32 (c5)),kO]
  .have h:=h.2 c3;exact aA (aF.int_eq h) [kc [] hw,kY,kf fT,kf jw,kc [] hv,kY,kc [] hc,kY,ko (bC.lJ x0 true),kp hM,kY,kt (y32 (qN.2 c3)),kO,kO,kO]
structure Okn(o:OP):Prop where
 cx:o.cx.length<=1000000000
 kd : -9223372036854775808<=o.kd/\o.kd<9223372036854775808
 f3 : -9223372036854775808<=o.f3/\o.f3<9223372036854775808
def qW(o:OP):Bool:=gQ (o.dv,o.sq)&&decide (o.tm>=1)&&decide (o.tm<=1099511627776)&&Cw o.cx && !cZ o.cx (o.dv,o.sq)
def aat(o:OP):Bool:=decide (o.pk=partOf o.kd)&&decide ((o.pn.size:Int)<=64)&&dO o o.kd&&decide (mQ o o.kd=Kj)
def rM(o:OP):Bool:=qW o&&decide (1<=o.kd)&&decide (o.kd<=8)&&aat o
def lM(o:OP):Int:=if rM o=true then 0 else 170
theorem aoV x:eZ [x]=if gQ x=true then 0 else 120:=by grind[eZ,Cw,y9,jh]
theorem aau(o:OP):∃l:List D,Cq 29 [aK,eG (o.dv,o.sq)] (.bq [bB l,int (if gQ (o.dv,o.sq)=true then 0 else 120)]):=by
 have h:=Q6 [] o.dv o.sq zS;refine⟨uK [] [(o.dv,o.sq)],?_⟩;have e:fM [] [(o.dv,o.sq)]=if gQ (o.dv,o.sq)=true then 0 else 120:=by
  unfold fM;rw[yL (by rfl),aoV]
 rw[e]at h;exact ak.qp h ⟨aF.nil 2,y34,yO⟩
theorem zY o(k:Int)b(hb:b=dO o k)(hk:o.kd=k)(hs:qW o=true)(h1:1<=k)(h8:k<=8)(h:∀v,(((o.pk=partOf k->((((o.pn.size:Int)>64->170=v)/\(¬(o.pn.size:Int)>64->((b=true->((mQ o k=Kj->0=v)/\(¬mQ o k=Kj->170=v)))/\(b=false->170=v))))))/\(¬o.pk=partOf k->170=v)))->Cq 31 [Ki o k] (int v)) :
 Cq 31 [op o] (int (lM o)):=by
 rw[<- ag3 o k hk];subst hk hb;have e:rM o=aat o:=by simp[rM,hs,h1,h8]
 unfold lM;rw[e];unfold aat;grind
theorem aav(o:OP)k:(mQ o k).cx=[]:=by unfold mQ;split<;>rfl
theorem nO(o:OP)k:Cq 59 [op (mQ o k),op Kj] (bool (decide (mQ o k=Kj))):=zG _ _ (by rw[aav];simp)
theorem K9 o(h:rM o=false)(hc:Cq 31 [op o] (int 170)):Cq 31 [op o] (int (lM o)):=by grind[lM]
theorem fG o(hn:Okn o):Cq 31 [op o] (int (lM o)):=by
 obtain⟨l,hw⟩:=aau o;by_cases hd:gQ (o.dv,o.sq)=true
 .rw [yL hd]at hw;by_cases t1:o.tm<1
  .exact K9 o (by simp only[rM,qW];grind) (aoS o l hw t1 yO)
  by_cases t2:1099511627776<o.tm
  .exact K9 o (by simp only[rM,qW];grind) (aoT o l hw zO t2 yO)
  have hv:=bH.fG o.cx hn.cx;by_cases dK:Cw o.cx=true
  .have e0:eZ o.cx=0:=by unfold eZ;rw[yL dK]
   rw[e0]at hv;have Xq:=jX o.cx o.dv o.sq hn.cx;cases hcb:cZ o.cx (o.dv,o.sq)with
   |true =>
    rw[hcb]at Xq;exact K9 o (by simp only[rM,qW];simp[hcb]) (jg o l hw zO zO hv Xq yO)
   |false =>
    rw[hcb]at Xq;have hs:qW o=true:=by simp only[qW];grind
    by_cases hk:o.kd<1\/8<o.kd
    .exact K9 o (by
      unfold rM;grind) (aoU o l hw zO zO hv Xq (kgn o.kd hn.kd hk) yO)
    .have y8:o.kd=1\/o.kd=2\/o.kd=3\/o.kd=4\/o.kd=5\/o.kd=6\/o.kd=7\/o.kd=8:=zO
     rcases y8 with h|h|h|h|h|h|h|h
     .exact zY o 1 _ rfl h hs zD zD fun v q=>PZ zD kg1 o l _ v hn.cx hw zO zO hv Xq (aoW { o with kd:=1 } hn.cx) (ac8 o yO) (nO o 1) q
     .exact zY o 2 _ rfl h hs zD zD fun v q=>PZ zD kg2 o l _ v hn.cx hw zO zO hv Xq (aoX { o with kd:=2 } hn.cx) (ac9 o yO) (nO o 2) q
     .exact zY o 3 _ rfl h hs zD zD fun v q=>PZ zD kg3 o l _ v hn.cx hw zO zO hv Xq (aoY { o with kd:=3 }) (ada o yO) (nO o 3) q
     .exact zY o 4 _ rfl h hs zD zD fun v q=>PZ zD kg4 o l _ v hn.cx hw zO zO hv Xq (aoZ { o with kd:=4 }) (adb o yO) (nO o 4) q
     .exact zY o 5 _ rfl h hs zD zD fun v q=>PZ zD kg5 o l _ v hn.cx hw zO zO hv Xq (ao0 { o with kd:=5 }) (ade o yO) (nO o 5) q
     .exact zY o 6 _ rfl h hs zD zD fun v q=>PZ zD kg6 o l _ v hn.cx hw zO zO hv Xq (ao1 { o with kd:=6 } hn.cx) (adf o yO) (nO o 6) q
     .exact zY o 7 _ rfl h hs zD zD fun v q=>PZ zD kg7 o l _ v hn.cx hw zO zO hv Xq (ao2 { o with kd:=7 } hn.cx hn.f3) (adg o yO) (nO o 7) q
     .exact zY o 8 _ rfl h hs zD zD fun v q=>PZ zD kg8 o l _ v hn.cx hw zO zO hv Xq (ao3 { o with kd:=8 } hn.cx) (adh o yO) (nO o 8) q
  .have e0:¬eZ o.cx=0:=by unfold eZ;grind
   exact K9 o (by simp only[rM,qW];simp[dK]) (F9 o l _ hw zO zO hv e0 yO)
 .rw [yK hd]at hw;exact K9 o (by simp only[rM,qW];simp[hd]) (aoR o l 120 hw zD yO)
end Go.bV
namespace Go.yU
open Go Go.Am Go.Proofs Go.eY
theorem La{p}:∀(l:List CV)r,(∀x∈l,∀r,p (gT x++r)=(true,x,r))->Gj p l.length (je l++r)=(true,l,r)
 |[],r,_=>rfl
 |v::l,r,h=>by
  have h1:=h v y06 (je l++r);have ih:=La l r fun x hx=>h x (yF _ hx);rw[Jr,y16];show Gj p (l.length+1) _=_;simp only[Gj,h1,if_true,ih]
theorem Wq v:∀(d:Nat)r,wf v=true->QG v->dp v<=d->P5 d (gT v++r)=(true,v,r):=by
 refine CV.ind (p:=fun v=>∀(d:Nat)r,wf v=true->QG v->dp v<=d->P5 d (gT v++r)=(true,v,r)) (fun k n s l ih d r hw dK hd=>?_) v;cases dK with
 |mk _ _ _ _ hn hs hl jH =>
 have als:∃deep p,P5 d=Kk deep p:=by cases d<;>exact⟨_,_,rfl⟩
 obtain⟨deep,p,hp⟩:=als;by_cases h1:k=1
 .subst h1;simp only[wf,if_true,y04,y05]at hw;obtain⟨rfl,EJ⟩:=hw;obtain rfl:=y02 EJ;obtain⟨k1,k2,k3⟩:=ET (vP n) (Sn hn) r;have e:gT (.mk 1 n .empty [])++r=1::(num (vP n)++r):=by simp[gT]
  rw[hp,e,ag4 zD,k1,k2,k3,adi];rfl
 by_cases h2:k=2
 .subst h2;have hw':n=0/\l.length=0:=by simpa[wf]using hw
  obtain⟨rfl,EJ⟩:=hw';obtain rfl:=y02 EJ;obtain⟨k1,k2,k3⟩:=ET s.size zO (s.data.toList++r);have e:gT (.mk 2 0 s [])++r=2::(num s.size++(s.data.toList++r)):=by simp[gT]
  have bL:s.data.toList.length=s.size:=rfl;have ok:FU (num s.size++(s.data.toList++r))=true:=by
   simp only[FU,k1,k3,Bool.true_and,y05,yD];omega
  rw[hp,e,ag5 zD,ok,k2,k3,take_left',drop_left']
  .rfl
  .rfl
  .rfl
 .have hk:k=3:=by
   rcases adj hw with h|h|h
   .exact absurd h h1
   .exact absurd h h2
   .exact h
  subst hk;have hw':(n=0/\s = .empty)/\Lb l=true:=by simpa[wf]using hw
  obtain⟨⟨rfl,rfl⟩,hwl⟩:=hw';have Xl:JO l+1<=d:=by simpa[dp]using hd
  obtain⟨d',rfl⟩:∃d',d=d'+1:=⟨d-1,zO⟩;obtain⟨k1,k2,k3⟩:=ET l.length zO (je l++r);have e:gT (.mk 3 0 .empty l)++r=3::(num l.length++(je l++r)):=by simp[gT]
  have uQ:=AX l;have ok:FU (num l.length++(je l++r))=true:=by
   simp only[FU,k1,k3,Bool.true_and,y05,yD];omega
  show Kk true (P5 d') _=_;rw[e,ag6 zD,yL ⟨rfl,ok⟩,k2,k3,La l r fun x hx r=>ih x hx d' r (AY hwl x hx) (jH x hx) (by have:=Sr hx;omega)];rfl
theorem adk v(hw:wf v=true)(dK:QG v)(hd:dp v<=16):aaw (gT v)=v/\adl (gT v)=0:=by
 have h:=Wq v 16 [] hw dK hd;rw[y23]at h;have hb:adn (gT v)=true:=by simp[adn,h]
 exact⟨by simp[aaw,hb,h],by simp[adl,hb]⟩
end Go.yU
namespace Go.bV
open Go Go.Am Go.Proofs Go.eY Go.bH Go.yU
abbrev Sv(n:Int):Prop := -9223372036854775808<=n/\n<9223372036854775808
structure Fw(o:OP):Prop where
 dv:Sv o.dv
 sq:Sv o.sq
 tm:Sv o.tm
 cx:∀d∈o.cx,Sv d.1/\Sv d.2
 pk:Sv o.pk
 kd:Sv o.kd
 f1:Sv o.f1
 f2:Sv o.f2
 f3:Sv o.f3
 t1:Sv o.t1
 t2:Sv o.t2
 t3:Sv o.t3
 n:Sv o.n
structure Few(B:Nat)(o:OP):Prop where
 cx:o.cx.length<=B
 ky:o.ky.size<=B
 vl:o.vl.size<=B
 pn:o.pn.size<=B
theorem Js n:wf (lZ n)=true:=by simp[lZ,wf]
theorem aax s:wf (N7 s)=true:=by simp[N7,wf]
theorem EU{l}(h:∀x∈l,wf x=true):wf (Jt l)=true:=by simp[Jt,wf,ag7 h]
theorem Ju n:dp (lZ n)=0:=by simp[lZ,dp]
theorem aay s:dp (N7 s)=0:=by simp[N7,dp]
theorem EW{l}{d}(h:∀x∈l,dp x<=d):dp (Jt l)<=d+1:=by
 have:=ag8 h;simp[Jt,dp];grind
theorem nu{n}(h:Sv n):QG (lZ n):=.mk _ _ _ _ h zD zD (fun x hx=>by cases hx)
theorem Sw{s}(h:s.size<=9223372036854775807):QG (N7 s):=.mk _ _ _ _ zD h zD (fun x hx=>by cases hx)
theorem EX{l}(h:l.length<=9223372036854775807)(hx:∀x∈l,QG x):QG (Jt l):=.mk _ _ _ _ zD zD h hx
theorem kM n:(gT (lZ n)).length<=11:=by
 have:=(Nz (vP n)).1;simp only[lZ,gT,if_true,yE];omega
theorem NA s:(gT (N7 s)).length<=11+s.size:=by
 have:=(Nz s.size).1;have e:gT (N7 s)=2::(num s.size++s.data.toList):=by simp[N7,gT]
 rw[e,yE,yD,eD];omega
theorem AZ l:(gT (Jt l)).length<=11+(je l).length:=by
 have:=(Nz l.length).1;have e:gT (Jt l)=3::(num l.length++je l):=by simp[Jt,gT]
 grind
theorem ado(l:List D):(je (l.map Lc)).length<=33*l.length:=by
 induction l with
 |nil=>simp[je]
 |cons d l ih =>
  rw[map_cons,Jr,yE];have h1:=AZ [lZ d.1,lZ d.2];have h2:=kM d.1;have h3:=kM d.2;have e:(je [lZ d.1,lZ d.2]).length=(gT (lZ d.1)).length+(gT (lZ d.2)).length:=by simp[je]
  have e2:gT (Lc d)=gT (Jt [lZ d.1,lZ d.2]):=rfl;grind
theorem aaz o:wf (P6 o)=true:=by
 refine EU fun x hx=>?_;simp only[yH,y15,or_false]at hx;rcases hx with rfl|rfl|rfl|rfl|rfl|rfl|rfl|rfl|rfl|rfl|rfl|rfl<;>first
  |exact Js _
  |exact aax _
  |skip
 .refine EU fun x hx=>?_;obtain⟨d,_,rfl⟩:=yG.1 hx;exact EU fun x hx=>by
   simp only[yH,y15,or_false]at hx;rcases hx with rfl|rfl<;>exact Js _
 .exact EU fun x hx=>by
   simp only[yH,y15,or_false]at hx;rcases hx with rfl|rfl
   .exact Js _
   .exact aax _
 .exact EU fun x hx=>by
   simp only[yH,y15,or_false]at hx;rcases hx with rfl|rfl|rfl<;>exact Js _
 .exact EU fun x hx=>by
   simp only[yH,y15,or_false]at hx;rcases hx with rfl|rfl|rfl<;>exact Js _
theorem aaA o:dp (P6 o)<=3:=by
 refine EW fun x hx=>?_;simp only[yH,y15,or_false]at hx;rcases hx with rfl|rfl|rfl|rfl|rfl|rfl|rfl|rfl|rfl|rfl|rfl|rfl<;>first
  |(rw[Ju];decide)
  |(rw[aay];decide)
  |skip
 .refine EW fun x hx=>?_;obtain⟨d,_,rfl⟩:=yG.1 hx;exact EW  fun x hx=>by
   simp only[yH,y15,or_false]at hx;rcases hx with rfl|rfl<;>(rw[Ju];decide)
 .exact y10 (EW (d:=0) fun x hx=>by
   simp only[yH,y15,or_false]at hx;rcases hx with rfl|rfl
   .rw [Ju];decide
   .rw [aay];decide) zD
 .exact y10 (EW (d:=0) fun x hx=>by
   simp only[yH,y15,or_false]at hx;rcases hx with rfl|rfl|rfl<;>(rw[Ju];decide)) zD
 .exact y10 (EW (d:=0) fun x hx=>by
   simp only[yH,y15,or_false]at hx;rcases hx with rfl|rfl|rfl<;>(rw[Ju];decide)) zD
theorem aaB{o}{B}(hB:B<=1000000000)(h:Fw o)(f:Few B o):QG (P6 o):=by
 have s:=f.ky;have s2:=f.vl;have s3:=f.pn;have s4:=f.cx;refine EX zS fun x hx=>?_;simp only[yH,y15,or_false]at hx;rcases hx with rfl|rfl|rfl|rfl|rfl|rfl|rfl|rfl|rfl|rfl|rfl|rfl
 .exact nu h.dv
 .exact nu h.sq
 .exact nu h.tm
 .refine EX (by rw[y13];omega) fun x hx=>?_;obtain⟨d,hd,rfl⟩:=yG.1 hx;exact EX zS fun x hx=>by
   simp only[yH,y15,or_false]at hx;rcases hx with rfl|rfl
   .exact nu (h.cx d hd).1
   .exact nu (h.cx d hd).2
 .exact EX zS fun x hx=>by
   simp only[yH,y15,or_false]at hx;rcases hx with rfl|rfl
   .exact nu h.pk
   .exact Sw zO
 .exact nu h.kd
 .exact EX zS fun x hx=>by
   simp only[yH,y15,or_false]at hx;rcases hx with rfl|rfl|rfl
   .exact nu h.f1
   .exact nu h.f2
   .exact nu h.f3
 .exact EX zS fun x hx=>by
   simp only[yH,y15,or_false]at hx;rcases hx with rfl|rfl|rfl
   .exact nu h.t1
   .exact nu h.t2
   .exact nu h.t3
 .exact Sw zO
 .exact Sw zO
 .exact nu h.n
 .exact nu (by split<;>decide)
theorem adp{o}{B}(f:Few B o):(gT (P6 o)).length<=36*B+1000:=by
 have s:=f.ky;have s2:=f.vl;have s3:=f.pn;have s4:=f.cx;have h0:=AZ [lZ o.dv,lZ o.sq,lZ o.tm,pQ o,Jt [lZ o.pk,N7 o.pn],lZ o.kd,Jt [lZ o.f1,lZ o.f2,lZ o.f3],Jt [lZ o.t1,lZ o.t2,lZ o.t3],N7 o.ky,N7 o.vl,lZ o.n,lZ (if o.on=true then 1 else 0)];have a1:=kM o.dv;have a2:=kM o.sq;have a3:=kM o.tm;have a4:=kM o.pk;have a5:=NA o.pn;have a6:=kM o.kd;have b1:=kM o.f1;have b2:=kM o.f2;have b3:=kM o.f3;have b4:=kM o.t1;have b5:=kM o.t2;have b6:=kM o.t3;have c1:=NA o.ky;have c2:=NA o.vl;have c3:=kM o.n;have c4:=kM (if o.on=true then 1 else 0);have d1:=AZ (o.cx.map Lc);have d2:=ado o.cx;have d3:=AZ [lZ o.pk,N7 o.pn];have d4:=AZ [lZ o.f1,lZ o.f2,lZ o.f3];have d5:=AZ [lZ o.t1,lZ o.t2,lZ o.t3];have e:gT (P6 o)=gT (Jt [lZ o.dv,lZ o.sq,lZ o.tm,pQ o,Jt [lZ o.pk,N7 o.pn],lZ o.kd,Jt [lZ o.f1,lZ o.f2,lZ o.f3],Jt [lZ o.t1,lZ o.t2,lZ o.t3],N7 o.ky,N7 o.vl,lZ o.n,lZ (if o.on=true then 1 else 0)]):=rfl;rw[e];have e2:gT (pQ o)=gT (Jt (o.cx.map Lc)):=rfl;simp only[je,yD,y14]at h0 d3 d4 d5;rw[e2]at h0;have m:=Nat.mul_le_mul_left 33 s4;omega
theorem aaC o:adq (P6 o).l=o:=by
 have hc:(o.cx.map Lc).map O8=o.cx:=by
  rw[map_map];refine(map_congr_left fun d _=>?_).trans (map_id _);rfl
 obtain⟨dv,sq,tm,cx,pk,pn,kd,f1,f2,f3,t1,t2,t3,ky,vl,n,on⟩:=o;show(⟨dv,sq,tm,(cx.map Lc).map O8,pk,pn,kd,f1,f2,f3,t1,t2,t3,ky,vl,n,(if on=true then(1)else 0)==1⟩:OP)=_;have h:=hc;rw[h];cases on<;>rfl
theorem Fw.Z5{o}{B}(hB:B<=1000000000)(h:Fw o)(f:Few B o):Okn o:=⟨by have:=f.cx;omega,h.kd,h.f3⟩
def Sy(o:OP):List UInt8:=if lM o=0 then gT (P6 o)else[]
theorem aeN o{B}(hB:B<=200000)(h:Fw o)(f:Few B o):Cq 96 [op o] (.bq [Cy (Sy o),int (lM o)]):=by
 have hc:=bV.fG o (h.Z5 zO f);have hl:=f.cx;by_cases h0:lM o=0
 .rw [h0]at hc;have he:=Ws (P6 o) (aaB zO h f) (by have:=aaA o;omega) (aaz o) (by have:=adp f;omega);rw[Sy,h0];exact ag9 o _ 0 zO hc he
 .rw [Sy,yK h0];exact alu o _ h0 hc trivial
def aeO(b:List UInt8):OP×Int:=if adl b=0 then(if lM (adq (aaw b).l)=0/\b=gT (P6 (adq (aaw b).l))then(adq (aaw b).l,0)else(Kj,170))else(Kj,adl b)
theorem Jv o{B}(hB:B<=200000)(h:Fw o)(f:Few B o)(h0:lM o=0):aeO (gT (P6 o))=(o,0):=by
 obtain⟨e1,e2⟩:=adk (P6 o) (aaz o) (aaB zO h f) (by have:=aaA o;omega);unfold aeO;rw[e1,e2,aaC,yL rfl,yL ⟨h0,rfl⟩]
theorem aaD:∀x y:List UInt8,Lib.compareBytes y x = -Lib.compareBytes x y
 |[],[]=>by simp[Lib.compareBytes]
 |[],_::_=>by simp[Lib.compareBytes]
 |_::_,[]=>by simp[Lib.compareBytes]
 |a::xs,b::ys=>by
  have ih:=aaD xs ys;simp only[Lib.compareBytes];grind
theorem P7:∀x y z:List UInt8,Lib.compareBytes x y<=0->Lib.compareBytes y z<=0->Lib.compareBytes x z<=0
 |[],_,[]=>by simp[Lib.compareBytes]
 |[],_,_::_=>by simp[Lib.compareBytes]
 |_::_,[],_=>by simp[Lib.compareBytes]
 |_::_,_::_,[]=>by simp[Lib.compareBytes]
 |a::xs,b::ys,c::zs=>by
  have ih:=P7 xs ys zs;have ha:a<b↔a.toNat<b.toNat:=UInt8.lt_iff_toNat_lt;have hb:b<a↔b.toNat<a.toNat:=UInt8.lt_iff_toNat_lt;have hc:b<c↔b.toNat<c.toNat:=UInt8.lt_iff_toNat_lt;have he:a<c↔a.toNat<c.toNat:=UInt8.lt_iff_toNat_lt;have hf:c<a↔c.toNat<a.toNat:=UInt8.lt_iff_toNat_lt;simp only[Lib.compareBytes,he];grind
theorem Wt(a b:OP)x y:xW b a y x = -xW a b x y:=by
 have:=aaD x y;simp only[xW,Ar,gJ];grind
theorem P8(a b c:OP)(x y z:List UInt8)(h1:xW a b x y<=0)(h2:xW b c y z<=0):xW a c x z<=0:=by
 have:=P7 x y z;rcases Int.lt_trichotomy a.tm b.tm with t1|t1|t1<;>rcases Int.lt_trichotomy b.tm c.tm with t2|t2|t2 <;>
  rcases Int.lt_trichotomy a.dv b.dv with d1|d1|d1<;>rcases Int.lt_trichotomy b.dv c.dv with d2|d2|d2 <;>
  simp only[xW,Ar,gJ]at h1 h2|-<;> grind (splits:=30)
theorem aaE{a b}{x y}(h:xW a b x y=0):x=y:=by
 have:=Uz x y;simp only[xW,Ar]at h;grind
end Go.bV
namespace Go.Mg
open Go Go.Am Go.Proofs Go.eY Go.bH Go.yU Go.bV
abbrev dt(o:OP):Int×Int:=(o.dv,o.sq)
def cm(a b:OP):Int:=xW a b (gT (P6 a)) (gT (P6 b))
def vO(o:OP):Bool:=decide (lM o=0)
abbrev Gd(o:OP):Prop:=Fw o/\Few 20000 o
abbrev rZ(l:List OP):Prop:=∀o∈l,Gd o
theorem ny a b:cm b a = -cm a b:=Wt a b _ _
theorem uW a:cm a a=0:=by have:=ny a a;omega
theorem nL{a b c}(h:cm a b<=0)(k:cm b c<=0):cm a c<=0:=P8 a b c _ _ _ h k
theorem P9{a b c}(h:cm a b<0)(k:cm b c<0):cm a c<0:=by
 have h1:=nL (a:=a) (b:=b) (c:=c) zO zO;rcases Int.lt_or_eq_of_le h1 with h2|h2
 .exact h2
 .grind [cm,ny,nL]
theorem aaF{a b}(ha:Gd a)(hb:Gd b)(va:vO a=true)(vb:vO b=true)(h:cm a b=0):a=b:=by
 have e:=aaE h;have h1:=Jv a zD ha.1 ha.2 (y18 va);have h2:=Jv b zD hb.1 hb.2 (y18 vb);grind
def Min(l:List OP)(x:OP):Prop:=x∈l/\vO x=true/\∀y∈l,vO y=true->dt y=dt x->cm x y<=0
structure mD(l m:List OP):Prop where
 sorted:m.Pairwise fun a b=>cm a b<0
 mem:∀x,x∈m↔Min l x
theorem Jw:∀{l m:List OP},l.Pairwise (fun a b=>cm a b<0)->m.Pairwise (fun a b=>cm a b<0)->(∀x,x∈l↔x∈m)->l=m
 |[],[],_,_,_=>rfl
 |[],b::m,_,_,h=>absurd ((h b).2 y06) zS
 |a::l,[],_,_,h=>absurd ((h a).1 y06) zS
 |a::l,b::m,hl,hm,h=>by
  have hl':=pairwise_cons.1 hl;have hm':=pairwise_cons.1 hm;have e:a=b:=by
   rcases yH.1 ((h a).1 y06)with e|ha
   .exact e
   .rcases yH.1 ((h b).2 y06)with e|hb
    .exact e.symm
    .grind [ny]
  subst e;congr 1;refine Jw hl'.2 hm'.2 fun x=>?_;constructor
  .intro hx;rcases yH.1 ((h x).1 (yF _ hx))with rfl|hx'
   .have:=hl'.1 x hx;have:=uW x;omega
   grind
  .intro hx;rcases yH.1 ((h x).2 (yF _ hx))with rfl|hx'
   .have:=hm'.1 x hx;have:=uW x;omega
   omega
theorem mD.one{l m n}(h:mD l m)(k:mD l n):m=n:=Jw h.sorted k.sorted fun x=>(h.mem x).trans (k.mem x).symm
def zZ:List OP->OP->List OP
 |[],o=>[o]
 |x::l,o=>if dt x=dt o then(if cm o x<0 then o::l else x::l)else x::zZ l o
def Gl(m:List OP)(o:OP):List OP:=if vO o=true then zZ m o else m
def known(m l:List OP):List OP:=l.foldl Gl m
abbrev NC(m:List OP):Prop:=m.Pairwise fun a b=>dt a≠dt b
theorem Ld:∀{m}{o}{d},d∈(zZ m o).map dt↔d∈m.map dt\/d=dt o
 |[],o,d=>by simp[zZ]
 |x::m,o,d=>by
  unfold zZ;split
  .grind
  .simp only[map_cons,yH,Ld ];grind
theorem UA:∀{m}{o},NC m->NC (zZ m o)
 |[],o,_=>by simp[zZ]
 |x::m,o,h=>by
  have h':=pairwise_cons.1 h;unfold zZ;split
  .split
   .simp_all
   .exact h
  .refine pairwise_cons.2 ⟨fun y hy e'=>?_,UA h'.2⟩;have:dt y∈(zZ m o).map dt:=yG.2 ⟨y,hy,rfl⟩;rcases Ld.1 this with h1|h1
   .grind
   grind
theorem Qa:∀{m}{o},NC m->∀x,x∈zZ m o↔(x∈m/\(dt x=dt o->¬cm o x<0))\/(x=o/\∀y∈m,dt y=dt o->cm o y<0)
 |[],o,_,x=>by simp[zZ]
 |y::m,o,h,x=>by
  have h':=pairwise_cons.1 h;unfold zZ;split
  .grind
  .simp only[yH,Qa h'.2];grind
structure uZ(l m:List OP):Prop where
 qV:NC m
 mem:∀x,x∈m↔Min l x
theorem Min.HV{l:List OP}{o x:OP}(hl:rZ l)(ho:Gd o)(hd:vO o=true){m:List OP}(k:uZ l m):Min (l++[o]) x↔(x∈m/\(dt x=dt o->¬cm o x<0))\/(x=o/\∀y∈m,dt y=dt o->cm o y<0):=by
 constructor
 .rintro ⟨h1,h2,h3⟩;have low:∀y∈l,vO y=true->dt y=dt x->cm x y<=0:=fun y hy=>h3 y (y07 _ hy);have ho3:=h3 o zS hd;rcases yI.1 h1 with hx|hx
  .exact .inl ⟨(k.mem x).2 ⟨hx,h2,low⟩,fun e=>by have:=ho3 e.symm;have:=ny x o;omega⟩
  .obtain rfl:x=o:=by simpa using hx
   by_cases hm:x∈m
   .grind [uW]
   .refine .inr ⟨rfl,fun y hy e=>?_⟩;obtain⟨q1,q2,q3⟩:=(k.mem y).1 hy;have h4:=low y q1 q2 e;rcases Int.lt_or_eq_of_le h4 with h5|h5
    .exact h5
    .grind [aaF,hd]
 .rintro (⟨hx,h1⟩|⟨rfl,h1⟩)
  .obtain ⟨q1,q2,q3⟩:=(k.mem x).1 hx;refine⟨y07 _ q1,q2,fun y hy vy e=>?_⟩;rcases yI.1 hy with hy|hy
   .exact q3 y hy vy e
   .obtain rfl:y=o:=by simpa using hy
    have:=h1 e.symm;have:=ny x y;omega
  .refine ⟨zS,hd,fun y hy vy e=>?_⟩;rcases yI.1 hy with hy|hy
   ·
    have:∃z∈m,dt z=dt x/\cm z y<=0:=by
     obtain⟨z,fT,jw⟩:=least l (dt x) ⟨y,hy,vy,e⟩;exact⟨z,(k.mem z).2 fT,jw.1,jw.2 y hy vy e⟩
    obtain⟨z,hz,ez,hzy⟩:=this;exact nL (by have:=h1 z hz ez;omega) hzy
   .obtain rfl:y=x:=by simpa using hy
    rw[uW];exact Int.le_refl _
where
 least:∀(l:List OP)(d:Int×Int),(∃y∈l,vO y=true/\dt y=d)->∃z,Min l z/\dt z=d/\∀y∈l,vO y=true->dt y=d->cm z y<=0
  |[],d,h=>by obtain⟨y,hy,_⟩:=h;cases hy
  |a::l,d,h=>by
   by_cases hl:∃y∈l,vO y=true/\dt y=d
   .obtain ⟨z,⟨z1,z2,z3⟩,ez,hz⟩:=least l d hl;by_cases ha:vO a=true/\dt a=d/\cm a z<0
    .refine ⟨a,⟨y06,ha.1,fun y hy vy e=>?_⟩,ha.2.1,fun y hy vy e=>?_⟩ <;>
     .rcases yH.1 hy with rfl|hy
      .rw [uW];exact Int.le_refl _
      .have:=hz y hy vy (by first|exact e|exact e.trans ha.2.1);exact nL zO this
    .have key:∀y∈a::l,vO y=true->dt y=d->cm z y<=0:=fun y hy vy e=>by
      rcases yH.1 hy with rfl|hy
      .by_cases hc:cm y z<0
       .grind
       .grind [ny]
      .exact hz y hy vy e
     exact⟨z,⟨yF _ z1,z2,fun y hy vy e=>key y hy vy (e.trans ez)⟩,ez,key⟩
   .obtain ⟨y,hy,vy,e⟩:=h;rcases yH.1 hy with rfl|hy
    .have key:∀z∈y::l,vO z=true->dt z=d->cm y z<=0:=fun z hz vz ez=>by
      rcases yH.1 hz with rfl|hz
      .rw [uW];exact Int.le_refl _
      .grind
     exact⟨y,⟨y06,vy,fun z hz vz ez=>key z hz vz (ez.trans e)⟩,e,key⟩
    .grind
theorem Min.skip{l}{o x}(hd:vO o=false):Min (l++[o]) x↔Min l x:=by
 constructor
 .rintro ⟨h1,h2,h3⟩;rcases yI.1 h1 with hx|hx
  .exact ⟨hx,h2,fun y hy=>h3 y (y07 _ hy)⟩
  grind
 .rintro ⟨h1,h2,h3⟩;refine⟨y07 _ h1,h2,fun y hy vy e=>?_⟩;grind
theorem uZ.add{l m}(k:uZ l m){o}(hl:rZ l)(ho:Gd o):uZ (l++[o]) (Gl m o):=by
 unfold Gl;split
 .rename_i hd;exact⟨UA k.qV,fun x=>(Qa k.qV x).trans (Min.HV hl ho hd k).symm⟩
 .rename_i hd;exact⟨k.qV,fun x=>(k.mem x).trans (Min.skip (by simpa using hd)).symm⟩
theorem uZ.known:∀{r l m},uZ l m->rZ (l++r)->uZ (l++r) (known m r)
 |[],l,m,k,_=>by simpa[Mg.known]using k
 |o::r,l,m,k,h=>by
  have:=uZ.known  (k.add (fun x hx=>h x (y07 _ hx)) (h o zS)) (by simpa using h);rw[y16]at this;exact this
theorem uZ.nil:uZ [] []:=⟨.nil,fun x=>⟨nofun,fun h=>(by cases h.1)⟩⟩
theorem uZ.canon{l m s}(k:uZ l m)(hl:rZ l)(hp:s.Perm m)(hs:s.Pairwise fun a b=>¬cm b a<0):mD l s:=by
 refine⟨?_,fun x=>(hp.mem_iff).trans (k.mem x)⟩;have wO:=(hp.pairwise_iff (fun{a b} h=>fun e=>h e.symm)).2 k.qV;refine(hs.and wO).imp_of_mem fun{a b} ha hb ⟨h1,h2⟩=>?_;obtain⟨a1,a2,_⟩:=(k.mem a).1 (hp.mem_iff.1 ha);obtain⟨b1,b2,_⟩:=(k.mem b).1 (hp.mem_iff.1 hb);have h3:=ny a b;rcases Int.lt_or_eq_of_le (show cm a b<=0 by omega)with h4|h4
 .exact h4
 .exact absurd (yJ dt (aaF (hl a a1) (hl b b1) a2 b2 h4)) h2
def ao4(l:List OP)(o:OP):Bool:=l.any fun x=>decide (dt x=dt o)&&decide (cm x o<=0)
def Jy:List OP->OP->List OP
 |[],o=>[o]
 |x::l,o=>if dt x=dt o then Jy l o else if cm o x<0 then o::x::l.filter (fun y=>decide (dt y≠dt o))else x::Jy l o
def adr(l:List OP)(o:OP):List OP:=if ao4 l o=true then l else Jy l o
def Sz(m:List OP)(o:OP):List OP:=if vO o=true then adr m o else m
def Jz(m l:List OP):List OP:=l.foldl Sz m
theorem Eh:∀{l}{o x},x∈Jy l o↔x=o\/(x∈l/\dt x≠dt o)
 |[],o,x=>by simp[Jy]
 |y::l,o,x=>by
  unfold Jy;split
  .rw[Eh];grind
  .split
   .grind
   .simp only[yH,Eh ];grind
theorem z8:∀{l}{o},l.Pairwise (fun a b=>cm a b<0)->rZ l->Gd o->(∀x∈l,vO x=true)->vO o=true->(Jy l o).Pairwise fun a b=>cm a b<0
 |[],o,_,_,_,_,_=>by simp[Jy]
 |y::l,o,h,g,go,v,vo=>by
  have h':=pairwise_cons.1 h;have g':rZ l:=fun x hx=>g x (yF _ hx);have v':∀x∈l,vO x=true:=fun x hx=>v x (yF _ hx);unfold Jy;split
  .exact z8 h'.2 g' go v' vo
  .rename_i e;split
   .rename_i hc;refine pairwise_cons.2 ⟨fun z hz=>?_,pairwise_cons.2 ⟨fun z hz=>h'.1 z (mem_filter.1 hz).1,h'.2.filter _⟩⟩;rcases yH.1 hz with rfl|hz
    .exact hc
    .grind [P9]
   .refine pairwise_cons.2 ⟨fun z hz=>?_,z8 h'.2 g' go v' vo⟩;rcases Eh.1 hz with rfl|⟨hz,_⟩
    .have h1:=ny y z;rcases Int.lt_or_eq_of_le (show cm y z<=0 by omega)with h4|h4
     .exact h4
     .exact absurd (yJ dt (aaF (g y y06) go (v y y06) vo h4)) e
    grind
theorem mD.keeps{l m}(k:mD l m)(hl:rZ l):uZ l m:=by
 refine⟨?_,k.mem⟩;refine k.sorted.imp_of_mem fun{a b} ha hb h e=>?_;obtain⟨a1,a2,a3⟩:=(k.mem a).1 ha;obtain⟨b1,b2,b3⟩:=(k.mem b).1 hb;have:=b3 a a1 a2 e;have:=ny a b;omega
theorem mD.add{l m}(k:mD l m){o}(hl:rZ l)(ho:Gd o):mD (l++[o]) (Sz m o):=by
 have kk:=k.keeps hl;unfold Sz;split
 .rename_i hd;have vN:∀x∈m,Gd x/\vO x=true:=fun x hx=>let ⟨a,b,_⟩:=(k.mem x).1 hx;⟨hl x a,b⟩;unfold adr;split
  .rename_i hh;obtain⟨z,hz,h⟩:=any_eq_true.1 hh;simp only[y04,y05]at h;refine⟨k.sorted,fun x=>Iff.trans ?_ (Min.HV hl ho hd kk).symm⟩;constructor
   .intro hx;refine .inl ⟨hx,fun e hc=>?_⟩;have:x=z:=by
     have:=kk.qV;by_cases hxz:x=z
     .exact hxz
     .rcases mem_iff_getElem.1 hx with⟨i,hi,rfl⟩;rcases mem_iff_getElem.1 hz with⟨j,hj,rfl⟩;have hp:=pairwise_iff_getElem.1 this;grind
    subst this;have:=ny o x;omega
   .rintro (⟨hx,_⟩|⟨rfl,h1⟩)
    .exact hx
    .have:=h1 z hz h.1;have:=ny x z;omega
  .rename_i hh;have xY:∀z∈m,dt z=dt o->cm o z<0:=fun z hz e=>by
    by_cases hc:cm z o<=0
    .exact absurd (any_eq_true.2 ⟨z,hz,by simp[e,hc]⟩) hh
    .grind [ny]
   refine⟨z8 k.sorted (fun x hx=>(vN x hx).1) ho (fun x hx=>(vN x hx).2) hd,fun x=>Iff.trans ?_ (Min.HV hl ho hd kk).symm⟩;rw[Eh];grind
 .rename_i hd;exact⟨k.sorted,fun x=>(k.mem x).trans (Min.skip (by simpa using hd)).symm⟩
theorem mD.union:∀{r l m},mD l m->rZ (l++r)->mD (l++r) (Jz m r)
 |[],l,m,k,_=>by simpa[Jz]using k
 |o::r,l,m,k,h=>by
  have:=mD.union  (k.add (fun x hx=>h x (y07 _ hx)) (h o zS)) (by simpa using h);rw[y16]at this;exact this
theorem mD.nil:mD [] []:=⟨.nil,fun x=>⟨nofun,fun h=>(by cases h.1)⟩⟩
def kK(l:List OP):List OP:=Jz [] l
theorem iH{l}(h:rZ l):mD l (kK l):=by
 have:=mD.nil.union  (by simpa using h);simpa[kK]using this
theorem Qb{l s}(h:rZ l)(hp:s.Perm (known [] l))(hs:s.Pairwise fun a b=>¬cm b a<0):s=kK l:=by
 have k:=uZ.nil.known  (by simpa using h);exact(k.canon h hp hs).one (iH h)
open Go.Sort
abbrev Gv(o:OP):Prop:=Gd o/\vO o=true
abbrev Uk(l:List OP):Prop:=∀o∈l,Gv o
theorem wG a b(ha:Gv a)(hb:Gv b):Cq 65 [op a,op b] (int (cm a b)):=by
 have h1:=aeN a  zD ha.1.1 ha.1.2;have h2:=aeN b  zD hb.1.1 hb.1.2;have k1:=y18 ha.2;have k2:=y18 hb.2;have e1:Sy a=gT (P6 a):=by unfold Sy;rw[yL k1]
 have e2:Sy b=gT (P6 b):=by unfold Sy;rw[yL k2]
 rw[e1]at h1;rw[e2]at h2;exact alv a b _ _ _ _ h1 h2
def fns:Func:=(P.funcs[63]?).getD default
def bds:Code:=oW P 63
def s0:Code:=Code.hd bds
def Wu:Array Oper:=Bj (Code.hd (Code.tl bds))
def op1(i:Nat):Oper:=Wu.toList.getD i default
def s2:Code:=Code.hd (Code.tl (Code.tl bds))
def F3:Array Oper:=Bj s2
def LH(i:Nat):Oper:=F3.toList.getD i default
def sE:Code:=Code.tl (Code.tl (Code.tl bds))
abbrev wL:AV:=gP 65
section
variable (es:List (Value×AV))
theorem s_0:bn P G none 1 s0 ⟨[rP,wL]++replicate (fns.ntmps-2) (.lit undef),[.box [.md true es]],[]⟩ ⟨aC 12 [(0,rP),(1,wL)],[.box [.md true es]],[]⟩:=bM [] (aB 12 [0,1]) 1 zQ
theorem s_1:vw P G none Wu 0 [op1 0] (aC 12 [(0,rP),(1,wL)]) [.box [.md true es]] [] []=some (.normal,aC 12 [(0,rP),(1,wL),(6,rP)],[.box [.md true es]],[],[],[]):=zQ
theorem s_2 H(x:AV):vw P G none Wu 2 [op1 2] (aC 12 [(0,rP),(1,wL),(6,rP),(7,x)]) H [] []=some (.normal,aC 12 [(0,rP),(1,wL),(5,x),(6,rP),(7,x)],H,[],[],[]):=zQ
theorem s_n(h:Cq 94 [aK,wL] (.bq [])):bn P G none 1 s2 ⟨aC 12 [(0,rP),(1,wL),(5,aK),(6,rP),(7,aK)],[.box [.md true es]],[]⟩ ⟨aC 12 [(5,aK)],[.box [.md true es]],[]⟩ :=
 bM [ko (.call [] (.ret (.bq [])) []),kp h] (aB 12 [5]) 1 zQ
theorem s_3 H(x:AV):vw P G none F3 0 [LH 0,LH 1] (aC 12 [(0,rP),(1,wL),(5,x),(6,rP),(7,x)]) H [] []=some (.normal,aC 12 [(0,rP),(1,wL),(5,x),(6,rP),(7,x),(8,x),(9,wL)],H,[],[],[]):=zQ
theorem ao5:y7 P G 1 fns sE ⟨aC 12 [(5,aK)],[.box [.md true es]],[]⟩ []=some (.ret aK,[.box [.md true es]],[]):=zQ
theorem ao6 g n(x:AV)xs:y7 P G 1 fns sE ⟨aC 12 [(0,rP),(1,wL),(5,.aU 7 g 0 n),(6,rP),(7,.aU 7 g 0 n),(8,.aU 7 g 0 n),(9,wL),(10,x)],[.box [.md true es],.aH,.aH,.aH,.aH,.aH,.aH,.aN g 17 false (dZ xs)],[]⟩ [] =
 some (.ret (.aU 7 g 0 n),[.box [.md true es],.aH,.aH,.aH,.aH,.aH,.aH,.aN g 17 false (dZ xs)],[]):=zQ
end
theorem aha V:SWO (ltOf fun a b:El V jy 17 Gv=>cm a.x b.x) where
 irrefl a:=by
  refine y20 ?_;show ¬cm a.x a.x<0;rw[uW];omega
 trans a b c h k:=by
  exact y19 (P9 (y18 h) (y18 k))
 ntrans a b c h k:=by
  have h:¬cm a.x b.x<0:=of_decide_eq_false h;have k:¬cm b.x c.x<0:=of_decide_eq_false k;refine y20 ?_;show ¬cm a.x c.x<0;have h1:=ny a.x b.x;have h2:=ny b.x c.x;have h3:=ny a.x c.x;have:=nL (a:=c.x) (b:=b.x) (c:=a.x) zO zO;omega
theorem Qc os u(rW:os.length<=1000000)(hg:Uk os)(hu:∀s:List OP,s.Perm os->s.Pairwise (fun a b=>¬cm b a<0)->s=u)(afn:Cq 94 [aK,wL] (.bq []))(FY:∀x y,Gv x->Gv y->Cq 65 [op x,op y] (int (cm x y))):ak P G 63 [rP,wL] [.box [.md true (os.map en)]] (.ret (cO u)) (dH (os.map en) u):=by
 have wN:P.funcs[63]?=some fns:=zQ
 have hb:fns.body=some (.seq s0 (.seq (.region 1 Wu false) (.seq s2 sE))):=zQ
 have hfc:P.funcs[93]?=some fnc:=zQ
 refine EB wN hb fun V a hH hG dK=>?_;have h0:V.H.length=1:=by rw[hH];rfl
 refine bn.seq (s_0 (os.map en)) h0 (Step.refl V) hG dK fun V1 a1 st1 g1 k1=>?_;refine Go.wpIn_seq ?_;refine wpIn_region ?_;refine qg (os1:=[op1 0]) (os2:=[op1 1,op1 2]) (i:=0) (bf:=[]) (aT:=[]) (ps:=[]) (r:=none) (s_1 (os.map en)) trivial zQ g1 k1.H k1.aL k1.dh fun V2 a2 st2 g2 YT e2 d2=>?_;have yV:(List.range Wu.size).drop (0+[op1 0].length)=1::(List.range Wu.size).drop 2:=zQ
 rw[yV];have hC:=Wv os rW;have jf:(#[Operand.tmp 6]:Array Operand).toList.map (Bf G (aC 12 [(0,rP),(1,wL),(6,rP)]))=[rP]:=zQ
 rw[<- jf]at hC;refine Qd (o:=op1 1) (ts:=ahb (op1 1)) zQ zQ zQ hfc zQ hC g2 YT e2 d2 (fun out H' ⟨v,_,h,_⟩=>⟨_,h⟩) ?_;rintro x H' V3 a3 ⟨v,hp,hx,rfl⟩ st3 g3 hh3 e3 d3;injection hx with hx;subst hx;have e3:=e3;refine ni (s_2 (dH (os.map en) v) (cO v)) trivial zQ g3 hh3 e3 d3 (fun _ V4 a4 st4 g4 hh4 e4 d4=>?_) fun x hx=>by cases hx
 show(Code.seq s2 sE).wpIn (fz none) 0 P _ a4 V4.w;have hs4:=((st1.trans st2).trans st3).trans st4;cases v with
 |nil =>
  have hu0:=(hu [] hp .nil).symm;subst hu0;exact bn.seq (s_n (os.map en) afn) h0 hs4 g4 ⟨e4,hh4,d4⟩ fun V5 a5 st5 g5 k5=>mJ [] (ao5 (os.map en)) h0 st5 g5 k5
 |cons o v =>
  have hs2:s2 = .region 2 F3 false:=zQ
  rw[hs2];refine Go.wpIn_seq ?_;refine wpIn_region ?_;refine qg (os1:=[LH 0,LH 1]) (os2:=[LH 2]) (i:=0) (bf:=[]) (aT:=[]) (ps:=[]) (r:=none) (s_3 _ (cO (o::v))) trivial zQ g4 hh4 e4 d4 fun V5 a5 st5 g5 hh5 e5 d5=>?_;have ahc:(List.range F3.size).drop (0+[LH 0,LH 1].length)=2::(List.range F3.size).drop 3:=zQ
  rw[ahc];have h9:a5.eval (.tmp 9) = .func (.func 65) #[] #[]:=bW (e5.get 9);have hgv:Uk (o::v):=fun x hx=>hg x (hp.mem_iff.1 hx);have hH5:V5.H[7]?=some (.aN v.length 17 false ((o::v).map jy)):=by rw[hh5];rfl
  have Cv:(o::v).length<=1000000:=by rw[hp.length_eq];exact rW
  have ao7:=aaG (V:=V5) Tryz.ahd Tryz.isAgg55 Tryz.sizeOf55 (oc:=jy) (k:=17) (Q:=Gv) (cf:=cm) (fun _=>rfl) (fun _=>rfl) (aha V5) (f:=65) (enters_of Tryz.func65 zQ rfl) FY g5 hH5 zS zO hgv (e5.get 8:dI V5 (.aU 7 v.length 0 (o::v).length) (a5.eval (.tmp 8)));refine yX (o:=LH 2) (g:=.func 94) (f:=94) (us:=#[]) (vs:=#[]) (args:=#[.tmp 8,.tmp 9]) (ts:=ahb (LH 2)) zQ zQ zQ Tryz.func94 zQ rfl (by
   have e:(#[]++#[Operand.tmp 8,.tmp 9].map a5.eval++#[]:Array Value)=#[a5.eval (.tmp 8),.func (.func 65) #[] #[]]:=by simp[h9]
   rw[e];exact callsIn_wide.2 ao7) ?_
  rintro e w' ⟨rfl,V6,r9,rfl,st6,g6,hh6,hp6,hs6⟩;refine⟨_,rfl,?_⟩;have ahe:(List.range F3.size).drop 3=[]:=zQ
  rw[ahe];show sE.wpIn (fz none) 0 P _ (a5.put (LH 2).dst (.tuple #[])) V6.w;have hux:=hu r9 (hp6.trans hp) hs6;subst hux;have e6:eF V6 (aC 12 [(0,rP),(1,wL),(5,cO (o::v)),(6,rP),(7,cO (o::v)),(8,cO (o::v)),(9,wL),(10,.bq [])]) (a5.put (LH 2).dst (.tuple #[])) :=
   (e5.step st6).put (LH 2).dst (x:=.bq []) (.pure _ _ (.bq [] [] rfl fun j hj=>absurd hj zS))
  have hl6:=hp6.length_eq;have hH6:V6.H=[.box [.md true (os.map en)],.aH,.aH,.aH,.aH,.aH,.aH,.aN v.length 17 false (dZ r9)]:=by rw[hh6,hh5];rfl
  have ht:=mJ (P:=P) (G:=G) [] (ao6 (os.map en) v.length (o::v).length (.bq []) r9) h0 ((hs4.trans st5).trans st6) g6 ⟨e6,hH6,by rw[nT];exact d5.step st6⟩;cases r9 with
  |nil=>simp at hl6
  |cons o' v' =>
   have hl7:v'.length=v.length:=by simpa using hl6
   have hc:cO (o'::v') = .aU 7 v.length 0 (o::v).length:=by
    show AV.aU 7 v'.length 0 (o'::v').length=_;rw[hl6,hl7]
   have hd:dH (os.map en) (o'::v')=[.box [.md true (os.map en)],.aH,.aH,.aH,.aH,.aH,.aH,.aN v.length 17 false (dZ (o'::v'))]:=by
    show[ah.box [.md true (os.map en)],.aH,.aH,.aH,.aH,.aH,.aH,.aN v'.length 17 false (dZ (o'::v'))]=_;rw[hl7]
   rw[hc,hd];exact ht
end Go.Mg
namespace Go.Mg
open Go Go.Am Go.Proofs Go.eY Go.bH Go.yU Go.bV
theorem ahf  (h:True):Cq 143 [.lit (Value.int IntKind.u64 0)] (int 0):=by
 exact aj [kY,kY,kY]
theorem ahg  (h:True):Cq 104 [.lit (Value.int IntKind.u64 0)] (int 0):=by
 exact aj [kY,kc [] (@ahf (trivial))]
theorem ahh f(h:True):Rq 0 162 0 (sM 53 [(0,aK),(1,int 0),(2,int 0),(3,gP f),(8,int 1),(10,int 0),(11,int 1)] []) (bF.exit 0) (sM 53 [] []):=by
 exact aG [kY] (aB 53 []) 0
theorem ahi f(h:True):Cq 162 [aK,int 0,int 0,gP f] (.bq []):=by
 exact aj [kl (rG [(4,4),(9,1),(12,41)]) 0 (@ahh (f) (trivial))]
theorem ahj(f:Nat)(h:True):Rq 0 124 0 (sM 148 [(0,aK),(1,int 0),(2,int 0),(3,int 0),(4,gP f),(10,Am.bool true),(11,Am.bool true)] []) bF.ret (sM 148 [] []):=by
 have _:=h;exact aG [kO,kc [] (@ahi (f) (trivial))] (aB 148 []) 0
theorem ahk(f:Nat)(h:True):Cq 124 [aK,int 0,int 0,int 0,gP f] (.bq []):=by
 have _:=h;exact aj [kl (rG [(5,5),(12,136)]) 0 (@ahj (f) (trivial))]
theorem Le f(h:True):Cq 94 [aK,gP f] (.bq []):=by
 exact aj [kc [] (@ahg (trivial)),kc [] (@ahk (f) (trivial))]
theorem Lf es(hs:ak P G 63 [rP,wL] [.box [.md true es]] (.ret aK) [.box [.md true es]]):Cq 35 [.md true es] aK :=
 aj [kc [] (@JA (es) (trivial)),kc [0] (@hs)]
theorem Ww es(g n:Nat)u(hs:ak P G 63 [rP,wL] [.box [.md true es]] (.ret (.aU 7 g 0 n)) [.box [.md true es],.aH,.aH,.aH,.aH,.aH,.aH,.aN g 17 false (dZ u)]) :
 ak P G 35 [.md true es] [] (.ret (.aU 7 g 0 n)) [.box [.md true es],.aH,.aH,.aH,.aH,.aH,.aH,.aN g 17 false (dZ u)] :=
 aj [kc [] (@JA (es) (trivial)),kc [0] (@hs),kp ((iY u))]
open Go.ChangeMaps
def fV(a b:Int):Value:=.agg #[.int .i64 a,.int .i64 b]
def fO(a:Int):Prop := -9223372036854775808<=a/\a<9223372036854775808
theorem laid:laidOutB P=true:=zQ
theorem fO.wf{n}(h:fO n):(Lit.int .i64 n).wf=true:=by
 unfold fO at h;simp[Lit.wf,IntKind.min,IntKind.signed,IntKind.bits];omega
theorem sz1:∃n,P.types.size=n+1:=by
 have h:1<=P.types.size:=Nat.le_of_ble_eq_true zQ;simp
theorem uG d{n}(h:fO n):P.keyLits (d+1) 3 [.int .i64 n]=some [.int .i64 n]:=by
 simp[Program.keyLits,h.wf]
theorem lD:Maps.Keyed P 49:=Maps.Keyed.of_law (deep_law_laid laid (m:=2) zD (Nat.le_of_ble_eq_true zQ) zQ zQ)
theorem uy{a b}(ha:fO a)(hb:fO b):∃l,keyOf P 49 (fV a b)=some l:=by
 have h1:(P.keyType 49&&(fV a b).formed P 49)=true:=zQ
 have h2:P.keyLits (P.types.size+1) 49 (fV a b).cells.toList=([P.keyLits P.types.size 3 [.int .i64 a],P.keyLits P.types.size 3 [.int .i64 b]].mapM id).map flatten:=zQ
 obtain⟨n,hn⟩:=sz1;refine⟨.string (keyBytes [.int .i64 a,.int .i64 b]),?_⟩;unfold keyOf;rw[yL h1,h2,hn,uG n ha,uG n hb];rfl
theorem nU{a b a' b'}(h:fV a b=fV a' b'):a=a'/\b=b':=by
 simp only[fV,Value.agg.injEq,Array.mk.injEq,List.cons.injEq,Value.int.injEq,true_and,and_true]at h;exact h
theorem Cm:∀ m(o:OP),((∀x∈m,dt x≠dt o)/\zZ m o=m++[o])\/∃us x bs,m=us++x::bs/\dt x=dt o/\zZ m o=if cm o x<0 then us++o::bs else m
 |[],o=>.inl ⟨fun _ h=>(by cases h),rfl⟩
 |x::m,o=>by
  unfold zZ;by_cases e:dt x=dt o
  .rw [yL e];exact .inr ⟨[],x,m,rfl,e,rfl⟩
  .rcases Cm m o with⟨h1,h2⟩|⟨us,y,bs,rfl,h2,h3⟩
   .grind
   .grind
abbrev Xr(o:OP):Prop:=fO o.dv/\fO o.sq
variable {m:List OP}
theorem Ei(h:∀x∈m,Xr x):∀e∈m.map en,∃l,keyOf P 49 e.1=some l:=fun e he=>by
 obtain⟨x,hx,rfl⟩:=yG.1 he;exact uy (h x hx).1 (h x hx).2
theorem aeP{x o}(h:kV x=fV o.dv o.sq):dt x=dt o:=by
 obtain⟨h1,h2⟩:=nU h;grind
theorem aeQ{x o}(h:dt x=dt o):kV x=fV o.dv o.sq:=by
 injection h with h1 h2;show fV x.dv x.sq=_;rw[h1,h2]
theorem ads(h:∀x∈m,Xr x){o}(ho:Xr o)(hn:∀x∈m,dt x≠dt o)z:bT P 49 (m.map en) (fV o.dv o.sq) z z false :=
 ⟨lD,uy ho.1 ho.2,Ei h,.inr ⟨rfl,rfl,fun e he hq=>by
  obtain⟨x,hx,rfl⟩:=yG.1 he;exact hn x hx (aeP hq)⟩⟩
theorem aaH(h:∀x∈m,Xr x){o x}(ho:Xr o)(hx:x∈m)(e:dt x=dt o)z:bT P 49 (m.map en) (fV o.dv o.sq) z (op x) true :=
 ⟨lD,uy ho.1 ho.2,Ei h,.inl ⟨rfl,yG.2 ⟨x,hx,by show(kV x,op x)=_;rw[aeQ e]⟩⟩⟩
theorem ahl{m}(h:∀x∈m,Xr x){o}(ho:Xr o)(hn:∀x∈m,dt x≠dt o):jm P 49 (m.map en) (fV o.dv o.sq) (op o) ((m++[o]).map en) :=
 ⟨lD,uy ho.1 ho.2,Ei h,.inr ⟨fun e he hq=>by
  obtain⟨x,hx,rfl⟩:=yG.1 he;exact hn x hx (aeP hq),by rw[map_append];rfl⟩⟩
theorem ahm{us bs}{o x}(h:∀y∈us++x::bs,Xr y)(ho:Xr o)(e:dt x=dt o):jm P 49 ((us++x::bs).map en) (fV o.dv o.sq) (op o) ((us++o::bs).map en) :=
 ⟨lD,uy ho.1 ho.2,Ei h,.inl ⟨us.map en,bs.map en,op x,by rw[map_append];show _++(kV x,op x)::_=_;rw[aeQ e],by rw[map_append];rfl⟩⟩
theorem Gd.iV{o}(h:Gd o):Xr o:=⟨h.1.dv,h.1.sq⟩
theorem Gd.Z5{o}(h:Gd o):Okn o:=⟨by have:=h.2.cx;omega,h.1.kd,h.1.f3⟩
theorem UC{m}{o}(hm:Uk m)(ho:Gd o):Uk (Gl m o):=by
 unfold Gl;split;rename_i hk;have ho:Gv o:=⟨ho,hk⟩
 .rcases Cm m o with⟨_,h2⟩|⟨us,x,bs,rfl,_,h3⟩
  .grind
  .grind
 .exact hm
theorem ND(m:List OP)n:∀e∈m.map en,e.2.bP n=true:=fun e he=>by
 obtain⟨x,_,rfl⟩:=yG.1 he;rfl
theorem ahn ls(k:Nat)l(hl:l.length<=1000000)(hg:rZ l)(FY:∀x y,Gv x->Gv y->Cq 65 [op x,op y] (int (cm x y))) :
 ∀n i m,l.length-i=n->i<=l.length->Uk m->Rq 0 36 1 (kiS ls (m.map en) k l i) (.exit 2) (kiX ls ((known m (l.drop i)).map en) k):=by
 intro n
 induction n with
 |zero =>
  intro i m hn hi hm;have e:l.drop i=[]:=y21 zO;rw[e];exact ao8 ls (m.map en) k i l zO trivial
 |succ n ih =>
  intro i m hn hi hm;have bg:i<l.length:=zO
  have hx:=yA bg;have ho:Gd l[i]:=hg _ (y03 _);have hc:=fG l[i] ho.Z5;have hd:=y01 bg;have next:=ih (i+1) (Gl m l[i]) zO zO (UC hm ho)
  rw[hd];show bN P G none 0 _ _ _ (kiX ls ((known (Gl m l[i]) (l.drop (i+1))).map en) k);unfold Gl at next |-
  by_cases dK:vO l[i]=true
  .have h0:=y18 dK;rw[h0]at hc;rw[yL dK]at next |-
   rcases Cm m l[i]with⟨h1,h2⟩|⟨us,x,bs,rfl,h2,h3⟩
   .rw [h2]at next |-
    exact ao9 ls (m.map en) _ k i l l[i] hl zO hx hc (ads (fun x hx=>(hm x hx).1.iV) ho.iV h1 _) (ahl (fun x hx=>(hm x hx).1.iV) ho.iV h1) _ _ ⟨ND _ _,next⟩
   .have QO:x∈us++x::bs:=zS
    have hgx:=hm x QO;rw[h3]at next |-
    by_cases oL:cm l[i] x<0
    .rw [yL oL]at next |-
     exact apa ls _ _ k i l l[i] x (cm l[i] x) hl zO hx hc (aaH (fun y hy=>(hm y hy).1.iV) ho.iV QO h2 _) (FY _ _ ⟨ho,dK⟩ hgx) oL (ahm (fun y hy=>(hm y hy).1.iV) ho.iV h2) _ _ ⟨ND _ _,next⟩
    .rw [yK oL]at next |-
     exact apb ls _ k i l l[i] x (cm l[i] x) hl zO hx hc (aaH (fun y hy=>(hm y hy).1.iV) ho.iV QO h2 _) (FY _ _ ⟨ho,dK⟩ hgx) oL _ _ ⟨ND _ _,next⟩
  .rw [yK dK]at next |-
   exact apc ls (m.map en) k i l l[i] (lM l[i]) (fun h=>dK (y19 h)) hl zO hx hc _ _ ⟨ND _ _,next⟩
theorem NG m l r:known m (l++r)=known (known m l) r:=foldl_append
theorem DL{l}:∀{m},Uk m->rZ l->Uk (known m l):=by
 induction l with
 |nil=>exact fun h _=>h
 |cons o l ih=>exact fun hm hl=>ih (UC hm (hl o y06)) fun x hx=>hl x (yF _ hx)
theorem aho ls(hls:ls.length<=1000000)(hl:∀l∈ls,l.length<=1000000/\rZ l)(FY:∀x y,Gv x->Gv y->Cq 65 [op x,op y] (int (cm x y))) :
 ∀n k m,ls.length-k=n->k<=ls.length->Uk m->Rq 0 36 0 (knS ls (m.map en) k) (.exit 0) { aL:=aC 48 [(3,.mp 0)],H:=[.map ((known m (ls.drop k).flatten).map en)] }:=by
 intro n
 induction n with
 |zero =>
  intro k m hn hk hm;have e:ls.drop k=[]:=y21 zO;rw[e];exact apd ls (m.map en) k zO trivial
 |succ n ih =>
  intro k m hn hk hm;have bg:k<ls.length:=zO
  have hx:=yA bg;have hg:=hl ls[k] (y03 _);have hd:=y01 bg;have hI:=ahn ls k ls[k] hg.1 hg.2 FY _ 0 m rfl yN hm;have next:=ih (k+1) (known m ls[k]) zO zO (DL hm hg.2)
  rw[hd,flatten_cons,NG];exact ape ls (m.map en) _ k ls[k] hls zO hx hI _ _ next
theorem Au ls(hls:ls.length<=1000000)(hl:∀l∈ls,l.length<=1000000/\rZ l)(FY:∀x y,Gv x->Gv y->Cq 65 [op x,op y] (int (cm x y))) :
 ak P G 36 [.sl 1 true (Nj ls)] [] (.ret (.mp 0)) [.map ((known [] ls.flatten).map en)] :=
 adt ls _ (aho ls hls hl FY _ 0 [] rfl yN (fun _ h=>(by cases h))) trivial
end Go.Mg
namespace Go.Mg
open Go Go.Am Go.Proofs Go.eY Go.bH Go.yU Go.bV
theorem Qe:∀ m(o:OP),(zZ m o).length<=m.length+1
 |[],_=>yM
 |x::m,o=>by
  unfold zZ;have:=Qe m o;grind
theorem EY:∀ l m,(known m l).length<=m.length+l.length
 |[],m=>yM
 |o::l,m=>by
  have h1:=EY l (Gl m o);have h2:(Gl m o).length<=m.length+1:=by grind[Gl,Qe]
  show(known (Gl m o) l).length<=_;grind
def oH:List OP->List ah
 |[]=>[]
 |o::v=>[.aH,.aH,.aH,.aH,.aH,.aH,.aH,.aN v.length 17 false (dZ (o::v))]
theorem SA l(hl:l.length<=1000000)(hg:rZ l):ak P G 35 [.md true ((known [] l).map en)] [] (.ret (cO (kK l))) (oH (kK l)):=by
 have hk:=EY l [];have hs:=Qc (known [] l) (kK l) (by simp at hk;omega) (DL (fun _ h=>(by cases h)) hg) (fun s hp hs=>Qb hg hp hs) (Le _ yO) wG;cases e:kK l with
 |nil =>
  rw[e]at hs;exact Lf _ hs
 |cons o v =>
  rw[e]at hs;exact(Ww _ v.length (o::v).length (o::v) hs).pY ⟨.inr yO,.inl rfl,.inl rfl,.inl rfl,.inl rfl,.inl rfl,.inl rfl,.inl rfl,yO⟩
theorem jd l:∀c∈dZ l,c.all AV.fJ=true:=fun c hc=>by
 obtain⟨o,_,rfl⟩:=yG.1 hc;rfl
theorem aaI l(hl:l.length<=1000000)(hg:rZ l):Cq 35 [.md true ((known [] l).map en)] (if kK l=[]then aK else dQ (kK l)):=by
 have hk:=EY l [];have hs:=Qc (known [] l) (kK l) (by simp at hk;omega) (DL (fun _ h=>(by cases h)) hg) (fun s hp hs=>Qb hg hp hs) (Le _ yO) wG;cases e:kK l with
 |nil =>
  rw[e]at hs;exact Lf _ hs
 |cons o v =>
  rw[e]at hs;exact aj [kc [] (@JA ((known [] l).map en) (trivial)),kc [0] (@hs),ko (bC.Gu (dZ (o::v))),kp (iY (o::v)),kp (show v.length=v.length from rfl),kp (show List.take (o::v).length (List.drop 0 (dZ (o::v)))=dZ (o::v)from by rw[drop_zero,y27 (by rw[aW];simp)]),kp (show(dZ (o::v)).length=(o::v).length from aW _),kp (jd (o::v))]
end Go.Mg
namespace Go.Am
open Go
theorem xI{G}{V:View}{id:Nat}{es}{v:Value}(hH:V.H[id]?=some (.map es))(hpu:∀e∈es,∀(V:View)(v:Value),dI V e.2 v->dR V.w V.M e.2 v)(hG:aD G V)(hr:dI V (.mp id) v) :
 ∃V':View,V'.w=V.w/\V'.H=V.H.set id .aH/\Step V V'/\aD G V'/\dI V' (.md true es) v:=by
 have bg:=(yC.1 hH).1;obtain⟨_,rfl⟩:=vD hr;obtain⟨ents,clock,hb,hk,hd,hbo,lG,Ii⟩:=hG.eP id _ hH;let V':View:={ w:=V.w,M:=fun b=>V.M b/\b≠V.ρ id,H:=V.H.set id .aH,ρ:=V.ρ };have Hs:V'.H[id]?=some .aH:=by grind
 have Ho:∀i,i≠id->V'.H[i]?=V.H[i]? := fun i hi=>by grind
 have hl:V'.H.length=V.H.length:=by show(V.H.set id _).length=_;simp
 have fB:Step V V':={
  os:=rfl
  tape:=rfl
  output:=rfl
  size:=yM
  drawn:=yM
  keep:=fun b _ hn=>⟨rfl,⟨fun h=>h.1,fun h=>⟨h,fun e=>hn id bg e.symm⟩⟩⟩
  data:=fun b _ hn=>⟨rfl,fun h=>hn h.1⟩
  bL:=Nat.le_of_eq hl.symm
  fresh:=fun i hi=>.inl ⟨by rw[hl]at hi;exact hi,rfl⟩
  eP:=fun i hi=>by
   by_cases e:i=id
   .grind [dL]
   .exact .refl hi (Ho i e) rfl rfl }
 refine⟨V',rfl,rfl,fB,?_,.pure _ _ (.md true es es (.refl _) (V.ρ id) ents clock (fun h=>h.2 rfl) hb hk hd (fun j hj=>?_) fun _=>⟨by rw[hbo];exact nodup_range,fun x hx=>?_⟩)⟩
 .exact {
   lt:=fun i hi=>by rw[hl]at hi;exact hG.lt i hi
   eP:=fun i ob ho=>by
    by_cases e:i=id
    .subst e;rw[Hs]at ho;cases ho;trivial
    .rw [Ho i e]at ho;exact(hG.eP i ob ho).step fB rfl
   inj:=fun i j hi hj e=>by rw[hl]at hi hj;exact hG.inj i j hi hj e
   gW:=fun i ob ho bA=>by
    by_cases e:i=id
    .subst e;rw[Hs]at ho;cases ho;cases bA
    .rw [Ho i e]at ho;exact⟨hG.gW i ob ho bA,fun he=>e (hG.inj i id (yC.1 ho).1 bg he)⟩
   ng:=hG.gD fB }
 .have hm:∃e∈es,e.2=uq es j:=by
   unfold uq;grind
  obtain⟨e,he,hee⟩:=hm;have h1:=Ii j hj;rw[<- hee]at h1;have h2:=hpu e he V _ h1;rw[hee]at h2;exact h2.Da fB
 .have:x.born∈ents.map (·.born):=yG.2 ⟨x,hx,rfl⟩;grind
theorem ak.aaJ{P}{G}{f}{W}{out}(hp:∀e∈W,∀(V:View)v,dI V e.2 v->dR V.w V.M e.2 v)(hf:out.Im=true)(hc:ak P G f [.md true W] [] out []):ak P G f [.mp 0] [.map W] out [.aH]:=by
 intro V vs hH hG hr;obtain⟨v,rfl⟩:∃v,vs=[v]:=by
  have:=hr.1
  match vs,this with
  |[v],_=>exact⟨v,rfl⟩
 obtain⟨V1,k1,k2,k3,k4,k5⟩:=xI (by rw[hH];rfl) hp hG hr.head;have hx:bR V1 [.md true W] [v]:=.cons k5 .nil;have vN:AV.aM [] [AV.md true W]=true:=rfl;have r:=iX (NZ []) [AV.md true W] vN;have:=ak.frame hc k4  nodup_nil zS rfl (fun i o ho=>by simp at ho) (fun i o ho=>by simp at ho) hx r.1.symm (r.2 _);rw[aS.Jq hf,k2,k1,hH]at this;exact this.mono fun e w' ⟨V2,a1,a2,a3,a4,a5⟩=>⟨V2,a1,k3.trans a2,a3,a4,a5⟩
end Go.Am
namespace Go.Mg
open Go Go.Am Go.Proofs Go.eY Go.bH Go.yU Go.bV
theorem GU(m:List OP):∀e∈m.map en,∀(V:View)v,dI V e.2 v->dR V.w V.M e.2 v:=fun e he V v hr=>by
 obtain⟨x,_,rfl⟩:=yG.1 he;obtain⟨vs,rfl,hl,ha⟩:=uO  hr;exact .agg (jy x) vs hl fun j hj=>kE (all_eq_true.1 (jd [x] (jy x) (by simp[dZ])) _ (by rw[yB,yA hj];simp)) (ha j hj)
theorem Aa(m:List OP):∀e∈m.map en,AV.gN [] e.2=true:=fun e he=>by
 obtain⟨x,_,rfl⟩:=yG.1 he;exact(by kernel_rfl)
theorem adu(a b:List OP)W(hk:ak P G 36 [.sl 1 true (Nj [a,b])] [] (.ret (.mp 0)) [.map W])(hs:ak P G 35 [.mp 0] [.map W] (.ret aK) [.aH])(hw:∀e∈W,AV.gN [] e.2=true)(h:True):Cq 14 [dQ a,dQ b] aK:=by
 have fT:∀ e,e∈W->AV.gN [] e.2=true:=zO;exact aj [kc [] hk,kp fT,kc [0] hs,kp fT]
theorem adv(a b u:List OP)W(hk:ak P G 36 [.sl 1 true (Nj [a,b])] [] (.ret (.mp 0)) [.map W])(hs:ak P G 35 [.mp 0] [.map W] (.ret (dQ u)) [.aH])(hw:∀e∈W,AV.gN [] e.2=true)(h:True):Cq 14 [dQ a,dQ b] (dQ u):=by
 have fT:∀ e,e∈W->AV.gN [] e.2=true:=zO;exact aj [kc [] hk,kp fT,kc [0] hs,kp fT]
def SB(u:List OP):AV:=if u=[]then aK else dQ u
theorem GY a b(ha:a.length<=400000)(hb:b.length<=400000)(ga:rZ a)(gb:rZ b):Cq 14 [dQ a,dQ b] (SB (kK (a++b))):=by
 have hg:rZ (a++b):=fun x hx=>(yI.1 hx).elim (ga x) (gb x);have hk:=Au [a,b] zS (fun l hl=>by
  rcases yH.1 hl with rfl|hl
  .exact ⟨zO,ga⟩
  grind) wG
 have e:[a,b].flatten=a++b:=zS
 rw[e]at hk;have hs:=aaI (a++b) (by rw[yD];omega) hg;unfold SB;by_cases hu:kK (a++b)=[]
 .rw [yL hu]at hs |-;exact adu a b _ hk (ak.aaJ (GU _) rfl hs) (Aa _) trivial
 .rw [yK hu]at hs |-;exact adv a b _ _ hk (ak.aaJ (GU _) rfl hs) (Aa _) trivial
end Go.Mg
namespace Go.bH
open Go Go.Am
structure Ok(v:List D):Prop where
 qV:∀d∈v,gQ d=true
 sorted:v.Pairwise fun p q=>p.1<q.1
theorem ji{d}:gQ d=true↔0<=d.1/\d.1<512/\1<=d.2/\d.2<=1048576:=by
 simp only[gQ,y04,y05];omega
theorem uM{v}:∀n k,k+n=v.length->(y9 v n k=true↔(∀j,k<=j->∀x,v[j]?=some x->gQ x=true/\(j=0\/∃y,v[j-1]?=some y/\y.1<x.1)))
 |0,k,h=>by
  simp only[y9];grind
 |n+1,k,h=>by
  have ih:=uM (v:=v) n (k+1) zO;have bg:k<v.length:=zO
  simp only[y9,y04];have hx:=yA bg;have hat:jh v k=true↔(gQ v[k]=true/\(k=0\/∃y,v[k-1]?=some y/\y.1<v[k].1)):=by
   simp only[jh,beq_iff_eq];grind
  grind
theorem RQ{v}:Cw v=true↔Ok v:=by
 unfold Cw;rw[uM v.length 0 zO];constructor
 .intro h;refine⟨fun d hd=>?_,?_⟩
  .obtain ⟨j,hj⟩:=mem_iff_getElem?.1 hd;grind
  .rw [pairwise_iff_getElem];have step:∀j h1,(v[j]'zO).1<v[j+1].1:=fun j h1=>by
    rcases(h (j+1) yN _ (yA h1)).2 with h0|⟨y,hy,bg⟩
    .omega
    .grind
   have all:∀m i h1,(v[i]'zO).1<(v[i+m+1]).1:=by
    intro m
    induction m with
    |zero=>intro i h1;grind
    |succ m ih=>grind
   intro i j hi hj wQ;have:=all (j-i-1) i zO;have e:i+(j-i-1)+1=j:=zO
   grind
 .intro h j _ x hx;refine⟨h.qV x (mem_of_getElem? hx),?_⟩;by_cases h0:j=0
  .exact .inl h0
  .right;obtain⟨h1,h2⟩:=yC.1 hx;refine⟨v[j-1]'zO,yA zO,?_⟩;have:=(pairwise_iff_getElem.1 h.sorted) (j-1) j zO h1 zO;grind
theorem Ok.tail{d}{v}(h:Ok (d::v)):Ok v:=⟨fun x hx=>h.qV x (yF _ hx),(pairwise_cons.1 h.sorted).2⟩
theorem Ok.lt{d}{v}(h:Ok (d::v)):∀x∈v,d.1<x.1:=(pairwise_cons.1 h.sorted).1
theorem Ok.nil:Ok []:=⟨zS,.nil⟩
theorem EZ{dev}{d}{v}(h:d.1≠dev):gI dev (d::v)=gI dev v:=yK h
theorem u6{dev}:∀{v},(∀d∈v,d.1≠dev)->gI dev v=0
 |[],_=>rfl
 |d::v,h=>by rw[gI,yK (h d zS)];exact u6 fun x hx=>h x (yF _ hx)
theorem qc{v}(h:Ok v):∀d∈v,gI d.1 v=d.2:=by
 induction v with
 |nil=>simp
 |cons x v ih =>
  intro d hd;rcases yH.1 hd with rfl|hd
  .rw [gI,yL rfl]
  .rw [gI,yK (by have:=h.lt d hd;omega)];exact ih h.tail d hd
theorem UD{v}(h:Ok v){dev}(hp:gI dev v≠0):∃d∈v,d.1=dev/\d.2=gI dev v:=by
 by_cases hd:∃d∈v,d.1=dev
 .obtain ⟨d,hd,rfl⟩:=hd;exact⟨d,hd,rfl,(qc h d hd).symm⟩
 .exact absurd (u6 fun d hm e=>hd ⟨d,hm,e⟩) hp
theorem mg{v}(h:Ok v)dev:0<=gI dev v/\gI dev v<=1048576:=by
 by_cases hp:gI dev v=0
 .omega
 .obtain ⟨d,hd,_,he⟩:=UD h hp;have:=ji.1 (h.qV d hd);omega
theorem atv{v:List D}(h:Ok v){dev:Int}(hp:gI dev v≠0):(dev,gI dev v)∈v:=by
 obtain⟨d,hd,h1,h2⟩:=UD h hp;have:d=(dev,gI dev v):=Prod.ext h1 h2;exact this▸hd
theorem auB:∀{u v:List D},Ok u->Ok v->(∀dev,gI dev u=gI dev v)->u=v
 |[],[],_,_,_=>rfl
 |[],d::v,_,h,e=>by
  have:=e d.1;rw[qc h d zS]at this;have:=ji.1 (h.qV d zS);simp only[gI]at *;omega
 |d::u,[],h,_,e=>by
  have:=e d.1;rw[qc h d zS]at this;have:=ji.1 (h.qV d zS);simp only[gI]at *;omega
 |d::u,c::v,h,k,e=>by
  have hd:=ji.1 (h.qV d zS);have hc:=ji.1 (k.qV c zS);have h1:c.1<=d.1:=by
   have e1:=e d.1;rw[qc h d zS]at e1;have:(d.1,gI d.1 (c::v))∈c::v:=atv k zO;rcases yH.1 this with h'|h'
   .grind
   .have:=k.lt _ h';simp only at this;omega
  have h2:d.1<=c.1:=by
   have e1:=e c.1;rw[qc k c zS]at e1;have:(c.1,gI c.1 (d::u))∈d::u:=atv h zO;rcases yH.1 this with h'|h'
   .have:=yJ Prod.fst h';simp only at this;omega
   .have:=h.lt _ h';simp only at this;omega
  have hdc:d=c:=Prod.ext zO (by
   have e1:=e d.1;rw[qc h d zS,show d.1=c.1 by omega,qc k c zS]at e1;exact e1)
  subst hdc;rw[auB h.tail k.tail fun dev=>by
   by_cases hx:d.1=dev
   .subst hx;rw[u6 fun x hx=>by have:=h.lt x hx;omega,u6 fun x hx=>by have:=k.lt x hx;omega]
   .have:=e dev;rw[gI,yK hx,gI,yK hx]at this;exact this]
theorem Ej:∀n (a b:List D),a.length+b.length<=n->Ok a->Ok b ->
 (qM n a b).Pairwise (fun p q=>p.1<q.1)/\(∀p∈qM n a b,(∃q∈a,q.1=p.1)\/(∃q∈b,q.1=p.1))/\(∀p∈qM n a b,p.2.1=gI p.1 a/\p.2.2=gI p.1 b) /\
 (∀q∈a,∃p∈qM n a b,p.1=q.1)/\(∀q∈b,∃p∈qM n a b,p.1=q.1):=by
 intro n
 induction n with
 |zero =>
  intro a b hn ha hb;have ea:a=[]:=y02 zO;have eb:b=[]:=y02 zO;subst ea eb;simp[qM]
 |succ n ih =>
  intro a b hn ha hb
  match a,b,hn,ha,hb with
  |[],[],_,_,_=>simp[qM]
  |x::a,[],hn,ha,hb =>
   obtain⟨i1,i2,i3,i4,_⟩:=ih a [] (by simp at hn |-;omega) ha.tail hb;have low:∀p∈qM n a [],x.1<p.1:=fun p hp=>by
    rcases i2 p hp with⟨q,hq,e⟩|⟨q,hq,_⟩
    .have:=ha.lt q hq;omega
    .cases hq
   simp only[qM];refine⟨pairwise_cons.2 ⟨low,i1⟩,fun p hp=>?_,fun p hp=>?_,fun q hq=>?_,fun q hq=>(by cases hq)⟩
   .grind
   .rcases yH.1 hp with rfl|hp
    .exact ⟨by rw[qc ha x zS],rfl⟩
    .have fF:x.1≠p.1:=by have:=low p hp;omega
     rw[EZ fF];exact i3 p hp
   .rcases yH.1 hq with rfl|hq
    .exact ⟨_,y06,rfl⟩
    .obtain ⟨p,h1,h2⟩:=i4 q hq;exact⟨p,yF _ h1,h2⟩
  |[],y::b,hn,ha,hb =>
   obtain⟨i1,i2,i3,_,i5⟩:=ih [] b (by simp at hn |-;omega) ha hb.tail;have low:∀p∈qM n [] b,y.1<p.1:=fun p hp=>by
    rcases i2 p hp with⟨q,hq,_⟩|⟨q,hq,e⟩
    .cases hq
    .have:=hb.lt q hq;omega
   simp only[qM];refine⟨pairwise_cons.2 ⟨low,i1⟩,fun p hp=>?_,fun p hp=>?_,fun q hq=>(by cases hq),fun q hq=>?_⟩
   .rcases yH.1 hp with rfl|hp
    .exact .inr ⟨y,zS,rfl⟩
    .exact (i2 p hp).imp id (fun⟨q,h1,h2⟩=>⟨q,yF _ h1,h2⟩)
   .rcases yH.1 hp with rfl|hp
    .exact ⟨rfl,by rw[qc hb y zS]⟩
    .have fF:y.1≠p.1:=by have:=low p hp;omega
     refine⟨(i3 p hp).1,?_⟩;rw[EZ fF];exact(i3 p hp).2
   .rcases yH.1 hq with rfl|hq
    .exact ⟨_,y06,rfl⟩
    .obtain ⟨p,h1,h2⟩:=i5 q hq;exact⟨p,yF _ h1,h2⟩
  |x::a,y::b,hn,ha,hb =>
   simp only[qM];by_cases h1:x.1<y.1
   .rw [yL h1];obtain⟨i1,i2,i3,i4,i5⟩:=ih a (y::b) (by simp at hn |-;omega) ha.tail hb;have low:∀p∈qM n a (y::b),x.1<p.1:=fun p hp=>by
     rcases i2 p hp with⟨q,hq,e⟩|⟨q,hq,e⟩
     .have:=ha.lt q hq;omega
     .rcases yH.1 hq with rfl|hq
      .omega
      .have:=hb.lt q hq;omega
    refine⟨pairwise_cons.2 ⟨low,i1⟩,fun p hp=>?_,fun p hp=>?_,fun q hq=>?_,fun q hq=>?_⟩
    .rcases yH.1 hp with rfl|hp
     .exact .inl ⟨x,zS,rfl⟩
     .exact (i2 p hp).imp (fun⟨q,h1,h2⟩=>⟨q,yF _ h1,h2⟩) id
    .rcases yH.1 hp with rfl|hp
     .refine ⟨by rw[qc ha x zS],?_⟩;rw[u6 fun q hq=>?_];rcases yH.1 hq with rfl|hq
      .simp only;omega
      .have:=hb.lt q hq;simp only;omega
     .have fF:x.1≠p.1:=by have:=low p hp;omega
      refine⟨?_,(i3 p hp).2⟩;rw[EZ fF];exact(i3 p hp).1
    .rcases yH.1 hq with rfl|hq
     .exact ⟨_,y06,rfl⟩
     .obtain ⟨p,k1,k2⟩:=i4 q hq;exact⟨p,yF _ k1,k2⟩
    .obtain ⟨p,k1,k2⟩:=i5 q hq;exact⟨p,yF _ k1,k2⟩
   .rw [yK h1];by_cases h2:y.1<x.1
    .rw [yL h2];obtain⟨i1,i2,i3,i4,i5⟩:=ih (x::a) b (by simp at hn |-;omega) ha hb.tail;have low:∀p∈qM n (x::a) b,y.1<p.1:=fun p hp=>by
      rcases i2 p hp with⟨q,hq,e⟩|⟨q,hq,e⟩
      .rcases yH.1 hq with rfl|hq
       .omega
       .have:=ha.lt q hq;omega
      .have:=hb.lt q hq;omega
     refine⟨pairwise_cons.2 ⟨low,i1⟩,fun p hp=>?_,fun p hp=>?_,fun q hq=>?_,fun q hq=>?_⟩
     .rcases yH.1 hp with rfl|hp
      .exact .inr ⟨y,zS,rfl⟩
      .exact (i2 p hp).imp id (fun⟨q,h1,h2⟩=>⟨q,yF _ h1,h2⟩)
     .rcases yH.1 hp with rfl|hp
      .refine ⟨?_,by rw[qc hb y zS]⟩;rw[u6 fun q hq=>?_];rcases yH.1 hq with rfl|hq
       .simp only;omega
       .have:=ha.lt q hq;simp only;omega
      .have fF:y.1≠p.1:=by have:=low p hp;omega
       refine⟨(i3 p hp).1,?_⟩;rw[EZ fF];exact(i3 p hp).2
     .obtain ⟨p,k1,k2⟩:=i4 q hq;exact⟨p,yF _ k1,k2⟩
     .rcases yH.1 hq with rfl|hq
      .exact ⟨_,y06,rfl⟩
      .obtain ⟨p,k1,k2⟩:=i5 q hq;exact⟨p,yF _ k1,k2⟩
    .rw [yK h2];have hxy:x.1=y.1:=zO
     obtain⟨i1,i2,i3,i4,i5⟩:=ih a b (by simp at hn |-;omega) ha.tail hb.tail;have low:∀p∈qM n a b,x.1<p.1:=fun p hp=>by
      rcases i2 p hp with⟨q,hq,e⟩|⟨q,hq,e⟩
      .have:=ha.lt q hq;omega
      .have:=hb.lt q hq;omega
     refine⟨pairwise_cons.2 ⟨low,i1⟩,fun p hp=>?_,fun p hp=>?_,fun q hq=>?_,fun q hq=>?_⟩
     .rcases yH.1 hp with rfl|hp
      .exact .inl ⟨x,zS,rfl⟩
      .exact (i2 p hp).imp (fun⟨q,h1,h2⟩=>⟨q,yF _ h1,h2⟩) (fun⟨q,h1,h2⟩=>⟨q,yF _ h1,h2⟩)
     .rcases yH.1 hp with rfl|hp
      .refine ⟨by rw[qc ha x zS],?_⟩;simp only;rw[hxy,qc hb y zS]
      .have fF:x.1≠p.1:=by have:=low p hp;omega
       have apf:y.1≠p.1:=by have:=low p hp;omega
       rw[EZ fF,EZ apf];exact i3 p hp
     .rcases yH.1 hq with rfl|hq
      .exact ⟨_,y06,rfl⟩
      .obtain ⟨p,k1,k2⟩:=i4 q hq;exact⟨p,yF _ k1,k2⟩
     .rcases yH.1 hq with rfl|hq
      .exact ⟨_,y06,hxy⟩
      .obtain ⟨p,k1,k2⟩:=i5 q hq;exact⟨p,yF _ k1,k2⟩
theorem E5:∀n a b,Kl n a b=(qM n a b).map (·.1)
 |0,_,_=>rfl
 |_+1,[],[]=>rfl
 |n+1,x::a,[]=>by simp only[Kl,qM,map_cons,E5 n a []]
 |n+1,[],y::b=>by simp only[Kl,qM,map_cons,E5 n [] b]
 |n+1,x::a,y::b=>by
  simp only[Kl,qM];by_cases h1:x.1<y.1
  .have h2:¬y.1<x.1:=zO
   simp only[yL h1,yK h2,map_cons,E5 n a (y::b)]
  .by_cases h2:y.1<x.1
   .simp only[yK h1,yL h2,map_cons,E5 n (x::a) b]
   .simp only[yK h1,yK h2,map_cons,E5 n a b]
structure Rule(tk:Int->Int->Int):Prop where
 zero:tk 0 0=0
 lo:∀x y,0<=x->0<=y->0<=tk x y
 hi:∀x y,x<=1048576->y<=1048576->tk x y<=1048576
theorem Qf:Rule fu:=⟨rfl,fun x y _ _=>by unfold fu;grind,fun x y _ _=>by unfold fu;omega⟩
theorem E8{tk}{a b}(ha:Ok a)(hb:Ok b){d}(h:d∈dD tk a b) :
 d.2=tk (gI d.1 a) (gI d.1 b)/\d.2>0/\((∃q∈a,q.1=d.1)\/(∃q∈b,q.1=d.1)):=by
 obtain⟨p,hp,he⟩:=mem_filterMap.1 h;obtain⟨_,i2,i3,_,_⟩:=Ej _ a b yM ha hb;unfold lV at he;grind
theorem NH{tk}{a b}(ha:Ok a)(hb:Ok b):(dD tk a b).Pairwise fun p q=>p.1<q.1:=by
 obtain⟨i1,_⟩:=Ej _ a b yM ha hb;unfold dD;rw[pairwise_filterMap];refine i1.imp ?_;intro p q hpq d hd c hc;unfold lV at hd hc;grind
theorem Qg{tk}(hr:Rule tk){a b}(ha:Ok a)(hb:Ok b):Ok (dD tk a b):=by
 refine⟨fun d hd=>?_,NH ha hb⟩;obtain⟨h1,h2,h3⟩:=E8 ha hb hd;rw[ji];have r1:=mg ha d.1;have r2:=mg hb d.1;have:=hr.hi _ _ r1.2 r2.2;rcases h3 with⟨q,hq,e⟩|⟨q,hq,e⟩
 .have:=ji.1 (ha.qV q hq);omega
 .have:=ji.1 (hb.qV q hq);omega
theorem aaK{tk}(hr:Rule tk){a b}(ha:Ok a)(hb:Ok b)dev:gI dev (dD tk a b)=tk (gI dev a) (gI dev b):=by
 obtain⟨_,i2,i3,i4,i5⟩:=Ej _ a b yM ha hb;have r1:=mg ha dev;have r2:=mg hb dev;by_cases vN:(∃q∈a,q.1=dev)\/(∃q∈b,q.1=dev)
 .obtain ⟨p,hp,hpd⟩:∃p∈qM (a.length+b.length) a b,p.1=dev:=by
   rcases vN with⟨q,hq,rfl⟩|⟨q,hq,rfl⟩
   .exact i4 q hq
   grind
  subst hpd;obtain⟨e1,e2⟩:=i3 p hp;by_cases qh:tk p.2.1 p.2.2>0
  .have hm:(p.1,tk p.2.1 p.2.2)∈dD tk a b:=mem_filterMap.2 ⟨p,hp,yL qh⟩;rw[qc (Qg hr ha hb) _ hm,<- e1,<- e2]
  .have h0:=hr.lo _ _ r1.1 r2.1;rw[<- e1,<- e2]at h0 |-;have hz:tk p.2.1 p.2.2=0:=zO
   rw[hz];refine u6 fun d hd e=>?_;obtain⟨h1,h2,_⟩:=E8 ha hb hd;grind
 .have z1:=u6 fun d hd e=>vN (.inl ⟨d,hd,e⟩);have z2:=u6 fun d hd e=>vN (.inr ⟨d,hd,e⟩);rw[z1,z2,hr.zero];refine u6 fun d hd e=>?_;obtain⟨_,_,h3⟩:=E8 ha hb hd;grind
theorem KE{tk}a b:(dD tk a b).length<=a.length+b.length :=
 y10 (length_filterMap_le _ _) (AU _ a b)
theorem Ab{α β:Type}{f g:α->Option β}:∀{l:List α},(∀x∈l,f x=g x)->l.filterMap f=l.filterMap g
 |[],_=>rfl
 |x::l,h=>by
  have h2:=Ab  fun y hy=>h y (yF _ hy);grind
theorem Lg{a b}(ha:Ok a)(hb:Ok b):aar a b=dD fu a b:=by
 unfold aar dD alp;rw[E5,filterMap_map];obtain⟨_,i2,i3,_,_⟩:=Ej _ a b yM ha hb;refine Ab fun p hp=>?_;obtain⟨e1,e2⟩:=i3 p hp;show aaq a b p.1=lV fu p;unfold aaq lV;rw[<- e1,<- e2];have qh:fu p.2.1 p.2.2>0:=by
  have r1:=mg ha p.1;have r2:=mg hb p.1;rcases i2 p hp with⟨q,hq,e⟩|⟨q,hq,e⟩
  .have:=qc ha q hq;have:=ji.1 (ha.qV q hq);rw[<- e]at r1 r2 e1 e2;unfold fu;omega
  .have:=qc hb q hq;have:=ji.1 (hb.qV q hq);rw[<- e]at r1 r2 e1 e2;unfold fu;omega
 rw[yL qh];rfl
theorem zh{a b}(ha:Ok a)(hb:Ok b):aas a b=true↔∃dev,gI dev a<gI dev b:=by
 obtain⟨_,_,i3,_,i5⟩:=Ej _ a b yM ha hb;unfold aas aeL;constructor
 .grind
 .grind [mg,UD]
end Go.bH
namespace Go.Mg
open Go Go.Am Go.Proofs Go.eY Go.bH Go.yU Go.bV
def lat(o:OP):List D:=o.cx++(if 1<o.sq then[(o.dv,o.sq-1)]else[])
def met(W:List D)(o:OP):Bool:=(lat o).all fun d=>decide (d.2<=bH.gI d.1 W)
def Gm(W:List D)(o:OP):Bool:=(o.cx.all fun d=>decide (d.2<=bH.gI d.1 W))&&decide (bH.gI o.dv W=o.sq-1)
def oF:List D->D->List D
 |[],d=>[d]
 |x::l,d=>if x.1=d.1 then d::l else x::oF l d
theorem JB:∀ W(d:D)v,bH.gI v (oF W d)=if d.1=v then d.2 else bH.gI v W
 |[],d,v=>rfl
 |x::l,d,v=>by
  unfold oF;by_cases h:x.1=d.1
  .rw [yL h];simp only[bH.gI];grind
  .rw [yK h];simp only[bH.gI,JB l d v];grind
def pick(p:OP->Bool):List OP->Option (OP×List OP)
 |[]=>none
 |o::l=>if p o=true then some (o,l)else(pick p l).map fun q=>(q.1,o::q.2)
theorem wF{p}:∀{l},pick p l=none->∀o∈l,p o=false
 |[],_,_,h=>by cases h
 |o::l,h,x,hx=>by
  unfold pick at h;split at h
  .cases h
  .rename_i hp;rcases yH.1 hx with rfl|hx
   .simpa using hp
   .exact wF (by simpa using h) x hx
theorem nM{p}:∀{l r}{o},pick p l=some (o,r)->∃a b,l=a++o::b/\r=a++b/\(∀x∈a,p x=false)/\p o=true
 |[],_,_,h=>by cases h
 |x::l,r,o,h=>by
  unfold pick at h;split at h
  .rename_i hp;cases h;exact⟨[],l,rfl,rfl,fun _ h=>(by cases h),hp⟩
  .obtain⟨⟨o',r'⟩,h1,h2⟩:=Option.map_eq_some_iff.1 h;obtain⟨a,b,rfl,rfl,e3,e4⟩:=nM h1;grind
theorem JC{p q}:∀{l},(∀o∈l,p o=q o)->pick p l=pick q l
 |[],_=>rfl
 |o::l,h=>by
  unfold pick;rw[h o y06,JC fun x hx=>h x (yF _ hx)]
def qG(m:List D->OP->Bool)(pt:List D->OP->List D):Nat->List D->List OP->List OP
 |0,_,_=>[]
 |n+1,W,l=>match pick (m W) l with
  |none=>[]
  |some (o,r)=>o::qG m pt n (pt W o) r
def EN(W:List D)(o:OP):List D:=oF W (o.dv,o.sq)
def yR(W:List D)(o:OP):List D:=aar W [(o.dv,o.sq)]
def GR(l:List OP):List OP:=qG met EN l.length [] l
theorem ug{o}(h:vO o=true):gQ (o.dv,o.sq)=true/\Cw o.cx=true/\cZ o.cx (o.dv,o.sq)=false:=by
 have h1:=y18 h;unfold lM at h1;have h2:rM o=true:=by
  by_cases hc:rM o=true
  .exact hc
  grind
 simp only[rM,qW]at h2;grind
theorem SC{o}(h:vO o=true):Ok [(o.dv,o.sq)]:=⟨fun x hx=>by rw[mem_singleton.1 hx];exact(ug h).1,pairwise_singleton ..⟩
theorem aeR{o}(h:vO o=true):Ok o.cx:=RQ.1 (ug h).2.1
theorem adw{V}{o}(hV:Ok V)(h:vO o=true):Ok (yR V o):=by grind[yR,Lg,SC,Qg,Qf]
theorem Em{V}{o}(hV:Ok V)(h:vO o=true)d:bH.gI d (yR V o)=if o.dv=d then max o.sq (bH.gI d V)else bH.gI d V:=by
 unfold yR;have h0:=(mg hV d).1;rw[Lg hV (SC h),aaK Qf hV (SC h)];show fu _ (if o.dv=d then o.sq else 0)=_;unfold fu;omega
structure Inv(W V:List D)(l:List OP):Prop where
 at_:∀d,bH.gI d W=bH.gI d V
 ok:Ok V
 valid:∀o∈l,vO o=true
 qV:NC l
 new:∀o∈l,bH.gI o.dv V<o.sq
theorem Inv.met{W V}{l}(h:Inv W V l){o}(ho:o∈l):met W o=Gm V o:=by
 have hn:=h.new o ho;have h0:=(mg h.ok o.dv).1;unfold Mg.met Gm lat;rw[all_append];congr 1
 .exact all_congr rfl fun d=>by rw[h.at_]
 .by_cases hs:1<o.sq
  .simp only[h.at_];grind
  .grind
theorem Inv.step{W V a b}{o}(h:Inv W V (a++o::b))(hm:Gm V o=true):Inv (EN W o) (yR V o) (a++b):=by
 have ho:o∈a++o::b:=zS
 have hv:=h.valid o ho;have hs:∀x,x∈a++b->x∈a++o::b:=fun x hx=>by
  rcases yI.1 hx with hx|hx
  .grind
  .grind
 have hd:(a++b).Sublist (a++o::b):=Sublist.append (Sublist.refl _) (sublist_cons_self ..);have fF:∀x∈a++b,dt x≠dt o:=fun x hx=>by
  have:=pairwise_append.1 h.qV;rcases yI.1 hx with hx|hx
  .grind
  .exact fun e=>(pairwise_cons.1 this.2.1).1 x hx e.symm
 have he:bH.gI o.dv V=o.sq-1:=by
  unfold Gm at hm;grind
 refine⟨fun d=>?_,adw h.ok hv,fun x hx=>h.valid x (hs x hx),h.qV.sublist hd,fun x hx=>?_⟩
 .rw [Em h.ok hv,EN,JB,h.at_ d];grind
 .rw [Em h.ok hv];have hx1:=h.new x (hs x hx);split
  .rename_i e;have:x.sq≠o.sq:=fun e2=>fF x hx (by show(x.dv,x.sq)=(o.dv,o.sq);rw[e,e2]);grind
  omega
theorem Qh:∀{n}{W V}{l},Inv W V l->qG met EN n W l=qG Gm yR n V l
 |0,_,_,_,_=>rfl
 |n+1,W,V,l,h=>by
  unfold qG;rw[JC fun o ho=>h.met ho];cases e:pick (Gm V) l with
  |none=>rfl
  |some q =>
   obtain⟨o,r⟩:=q;obtain⟨a,b,rfl,rfl,_,h4⟩:=nM e;simp only;rw[Qh (h.step h4)]
theorem inv0{l}(hv:∀o∈l,vO o=true)(hd:NC l):Inv [] [] l:=⟨fun _=>rfl,Ok.nil,hv,hd,fun o ho=>by
 have:=(ji.1 (ug (hv o ho)).1);show(0)<o.sq;omega⟩
theorem adx{l}(hv:∀o∈l,vO o=true)(hd:NC l):GR l=qG Gm yR l.length [] l:=Qh (inv0 hv hd)
def seen(V:List D)(out:List OP):List D:=out.foldl yR V
def Met(V:List D)(o:OP):Prop:=(∀d∈o.cx,d.2<=bH.gI d.1 V)/\o.sq-1<=bH.gI o.dv V
structure Rdy(V:List D)(l out:List OP):Prop where
 ok:Ok (seen V out)
 le:∀d,bH.gI d V<=bH.gI d (seen V out)
 sub:∀o∈out,o∈l
 nd:NC out
 cov:∀o∈out,o.sq<=bH.gI o.dv (seen V out)
 met:∀o∈out,Met (seen V out) o
 from_:∀d,bH.gI d V<bH.gI d (seen V out)->∃o∈out,dt o=(d,bH.gI d (seen V out))
 all:∀o∈l,Met (seen V out) o->o∈out
 apg:∀o∈l,o.sq<=bH.gI o.dv (seen V out)->o∈out
theorem Qi{V}{o}(h:bH.gI o.dv V<o.sq):Gm V o=true↔Met V o:=by
 unfold Gm Met;grind
theorem Met.mono{V U}(h:∀d,bH.gI d V<=bH.gI d U){o}(m:Met V o):Met U o:=⟨fun d hd=>Int.le_trans (m.1 d hd) (h d.1),Int.le_trans m.2 (h o.dv)⟩
theorem aaL:∀{n}{W V}{l},Inv W V l->l.length<=n->Rdy V l (qG Gm yR n V l):=by
 intro n
 induction n with
 |zero =>
  intro W V l h hn;have:l=[]:=y02 zO;subst this;exact⟨h.ok,fun _=>Int.le_refl _,fun _ h=>(by cases h),.nil,fun _ h=>(by cases h),fun _ h=>(by cases h),fun d hd=>absurd hd (Int.lt_irrefl _),fun _ h=>(by cases h),fun _ h=>(by cases h)⟩
 |succ n ih =>
  intro W V l h hn;unfold qG;cases e:pick (Gm V) l with
  |none =>
   have xY:=wF e;exact⟨h.ok,fun _=>Int.le_refl _,fun _ h=>(by cases h),.nil,fun _ h=>(by cases h),fun _ h=>(by cases h),fun d hd=>absurd hd (Int.lt_irrefl _),fun o ho m=>(by
    have:=(Qi (h.new o ho)).2 m;rw[xY o ho]at this;cases this),fun o ho hc=>absurd hc (by have:=h.new o ho;show ¬o.sq<=bH.gI o.dv V;omega)⟩
  |some q =>
   obtain⟨o,r⟩:=q;obtain⟨a,b,rfl,rfl,_,h4⟩:=nM e;have ho:o∈a++o::b:=zS
   have hv:=h.valid o ho;have fB:=h.step h4;have k:=ih fB (by simp at hn |-;omega);simp only;generalize zm:qG Gm yR n (yR V o) (a++b)=out at k |-;have es:seen V (o::out)=seen (yR V o) out:=rfl;have hs:∀x,x∈a++b->x∈a++o::b:=fun x hx=>by
    rcases yI.1 hx with hx|hx
    .grind
    .grind
   have hs':∀x,x∈a++o::b->x=o\/x∈a++b:=fun x hx=>by
    rcases yI.1 hx with hx|hx
    .grind
    .grind
   have hj:∀d,bH.gI d V<=bH.gI d (yR V o):=fun d=>by rw[Em h.ok hv];split<;>omega
   have hjo:bH.gI o.dv (yR V o)=o.sq:=by rw[Em h.ok hv,yL rfl];have:=h.new o ho;omega
   have fF:∀x∈a++b,dt o≠dt x:=fun x hx=>by
    have:=pairwise_append.1 h.qV;rcases yI.1 hx with hx|hx
    .grind
    .simp_all
   refine⟨k.ok,fun d=>Int.le_trans (hj d) (k.le d),fun x hx=>?_,pairwise_cons.2 ⟨fun x hx=>fF x (k.sub x hx),k.nd⟩,fun x hx=>?_,fun x hx=>?_,fun d hd=>?_,fun x hx m=>?_,fun x hx hc=>?_⟩
   .rcases yH.1 hx with rfl|hx
    .exact ho
    .exact hs x (k.sub x hx)
   .rcases yH.1 hx with rfl|hx
    .have:=k.le x.dv;rw[es];omega
    .exact k.cov x hx
   .rcases yH.1 hx with rfl|hx
    .exact ((Qi (h.new x ho)).1 h4).mono fun d=>Int.le_trans (hj d) (k.le d)
    .exact k.met x hx
   .rw [es]at hd |-;by_cases bg:bH.gI d (yR V o)<bH.gI d (seen (yR V o) out)
    .obtain ⟨x,hx,e1⟩:=k.from_ d bg;exact⟨x,yF _ hx,e1⟩
    .have uQ:=k.le d;have he:bH.gI d (seen (yR V o) out)=bH.gI d (yR V o):=zO
     refine⟨o,y06,?_⟩;rw[he]at hd |-;by_cases hdv:o.dv=d
     .subst hdv;rw[hjo]
     .rw [Em h.ok hv,yK hdv]at hd;omega
   .rcases hs' x hx with rfl|hx
    .exact y06
    .exact yF _ (k.all x hx m)
   .rcases hs' x hx with rfl|hx
    .exact y06
    .exact yF _ (k.apg x hx hc)
theorem AQ{l}(h:rZ l):∀o∈kK l,vO o=true:=fun o ho=>(((iH h).mem o).1 ho).2.1
theorem I6{l}(h:rZ l):NC (kK l):=((iH h).keeps h).qV
theorem EM{l}(h:rZ l):rZ (kK l):=fun o ho=>h o (((iH h).mem o).1 ho).1
theorem R3{l}(h:rZ l):Rdy [] (kK l) (GR (kK l)):=by
 rw[adx (AQ h) (I6 h)];exact aaL (inv0 (AQ h) (I6 h)) yM
def fwS(l:List OP)(n:Int)(k:Nat):St:={ aL:=aC 44 [(0,dQ l),(1,int n),(4,Am.bool false),(5,int k)],H:=[] }
theorem alx l(n:Int)x(k:Nat)(hl:l.length<=9223372036854775807)(hk:k<(l.length:Int))(hx:l[k]?=some x)(ha:(x.cx.length:Int)>12)(ex:bF)s'(h:(bF.ret=ex)/\(sM 44 [(4,Am.bool false)] []=s')):Rq 0 12 0 (fwS l n k) ex s':=by
 obtain⟨eX,eS⟩:=h;exact bN.to ((aG [kN 9 (aW l),ki ((k:Int)<l.length),ke (jy x) (dZ l) k (bG hx),kN 19 (Go.bH.ay x.cx),ki ((↑(length x.cx):Int)>12),kO,kO,kO] (aB 44 [4]) 0)) eX (eB.of_eq eS)
theorem aly l(n:Int)x(k:Nat)(hl:l.length<=9223372036854775807)(hk:(k:Int)<l.length)(hx:l[k]?=some x)(ha:(x.cx.length:Int)<=12)(hb:(x.vl.size:Int)>300)(ex:bF)s'(h:(bF.ret=ex)/\(sM 44 [(4,Am.bool false)] []=s')):Rq 0 12 0 (fwS l n k) ex s':=by
 obtain⟨eX,eS⟩:=h;exact bN.to ((aG [kN 9 (aW l),ki ((k:Int)<l.length),ke (jy x) (dZ l) k (bG hx),kN 19 (Go.bH.ay x.cx),kj ((↑(length x.cx):Int)>12),ki ((↑(ByteArray.size x.vl):Int)>300),kO,kO] (aB 44 [4]) 0)) eX (eB.of_eq eS)
theorem alz l(n:Int)x(k:Nat)(hl:l.length<=9223372036854775807)(hk:k<(l.length:Int))(hx:l[k]?=some x)(ha:(x.cx.length:Int)<=12)(hb:(x.vl.size:Int)<=300)(hc:(x.ky.size:Int)>300)(ex:bF)s'(h:(bF.ret=ex)/\(sM 44 [(4,Am.bool false)] []=s')):Rq 0 12 0 (fwS l n k) ex s':=by
 obtain⟨eX,eS⟩:=h;exact bN.to ((aG [kN 9 (aW l),ki ((k:Int)<l.length),ke (jy x) (dZ l) k (bG hx),kN 19 (Go.bH.ay x.cx),kj ((↑(length x.cx):Int)>12),kj ((↑(ByteArray.size x.vl):Int)>300),ki ((↑(ByteArray.size x.ky):Int)>300),kO] (aB 44 [4]) 0)) eX (eB.of_eq eS)
theorem alA l(n:Int)x(k:Nat)(hl:l.length<=9223372036854775807)(hk:(k:Int)<l.length)(hx:l[k]?=some x)(ha:(x.cx.length:Int)<=12)(hb:(x.vl.size:Int)<=300)(hc:(x.ky.size:Int)<=300)(hd:(x.pn.size:Int)>300)(ex:bF)s'(h:(bF.ret=ex)/\(sM 44 [(4,Am.bool false)] []=s')):Rq 0 12 0 (fwS l n k) ex s':=by
 obtain⟨eX,eS⟩:=h;exact bN.to ((aG [kN 9 (aW l),ki ((k:Int)<l.length),ke (jy x) (dZ l) k (bG hx),kN 19 (Go.bH.ay x.cx),kj ((↑(length x.cx):Int)>12),kj ((↑(ByteArray.size x.vl):Int)>300),kj ((↑(ByteArray.size x.ky):Int)>300),ki ((↑(ByteArray.size x.pn):Int)>300)] (aB 44 [4]) 0)) eX (eB.of_eq eS)
theorem alB(l:List OP)(n:Int)(x:OP)(k:Nat)(hl:l.length<=9223372036854775807)(hk:(k:Int)<(l.length:Int))(hx:l[k]?=some x)(ha:(x.cx.length:Int)<=12)(hb:(x.vl.size:Int)<=300)(hc:(x.ky.size:Int)<=300)(hd:(x.pn.size:Int)<=300)(ex:bF)(s':St)(h:Rq 0 12 0 (sM 44 [(0,dQ l),(1,int n),(4,Am.bool false),(5,int ↑(k+1))] []) ex s'):Rq 0 12 0 (fwS l n k) ex s':=by
 exact aJ [kN 9 (aW l),ki ((k:Int)<l.length),ke (jy x) (dZ l) k (bG hx),kN 19 (Go.bH.ay x.cx),kj ((↑(length x.cx):Int)>12),kj ((↑(ByteArray.size x.vl):Int)>300),kj ((↑(ByteArray.size x.ky):Int)>300),kj ((↑(ByteArray.size x.pn):Int)>300),kW 12 (k+1) ↑(k+1)] (aB 44 [0,1,4,5]) 0 h
theorem alC l(n:Int)(k:Nat)(hl:l.length<=9223372036854775807)(hk:¬(k:Int)<l.length)(h:True):Rq 0 12 0 (fwS l n k) (bF.exit 0) (sM 44 [(0,dQ l),(1,int n),(4,Am.bool false)] []):=by
 exact aG [kN 9 (aW l),kj ((k:Int)<l.length)] (aB 44 [0,1,4]) 0
def smS(a b:List OP)(k:Nat):St:={ aL:=aC 27 [(0,dQ a),(1,dQ b),(4,Am.bool false),(5,int k)],H:=[] }
theorem E9 a b(k:Nat)(ha:a.length<=1000000)x y(hx:a[k]?=some x)(hy:b[k]?=some y)(hk:k<(a.length:Int))r(hs:Cq 34 [op x,op y] (Am.bool r))ex(s':St)(h:((((r)=true)->Rq 0 13 0 (sM 27 [(0,dQ a),(1,dQ b),(4,Am.bool false),(5,int ↑(k+1))] []) ex s')/\(((r)=false)->(bF.ret=ex)/\(sM 27 [(4,Am.bool false)] []=s')))):Rq 0 13 0 (smS a b k) ex s':=by
 let l1:List fP:=[kN 13 (aW a),ki ((k:Int)<a.length),ko (bC.elem (jy x)),ko (bC.elem (jy y)),kp (show(0:Int)<=(k:Int)/\(dZ a)[Int.toNat (k:Int)]?=some (jy x)from(bG hx)),kp (show(0:Int)<=(k:Int)/\(dZ b)[Int.toNat (k:Int)]?=some (jy y)from(bG hy)),kc [] hs];rcases y00 ((r))with c2|c2
 .have h:=h.1 c2;exact aJ (l1++[kf (y32 (c2)),kW 16 (k+1) ↑(k+1)]) (aB 27 [0,1,4,5]) 0 h
 .have h:=h.2 c2;obtain⟨eX,eS⟩:=h;exact bN.to ((aG (l1++[kt (show(!r)=true from(y32 (c2)))]) (aB 27 [4]) 0)) eX (eB.of_eq eS)
theorem ahp a b(k:Nat)(ha:a.length<=1000000)(hk:¬(k:Int)<a.length)ex(s':St)(h:(bF.exit 0=ex)/\(sM 27 [(4,Am.bool false)] []=s')):Rq 0 13 0 (smS a b k) ex s':=by
 obtain⟨eX,eS⟩:=h;exact bN.to ((aG [kN 13 (aW a),kj ((k:Int)<a.length)] (aB 27 [4]) 0)) eX (eB.of_eq eS)
def ndA(v:Int)(ds:List D)(a:Int):Int:=ds.foldl (fun a d=>if d.1=v then max a d.2 else a) a
def rQ(W:List D)(d:D):List D:=oF W (d.1,max (bH.gI d.1 W) d.2)
abbrev yS(W:List D):List Int:=W.map (·.1)
theorem aeS v:∀ ds W,bH.gI v (ds.foldl rQ W)=ndA v ds (bH.gI v W)
 |[],W=>rfl
 |d::ds,W=>by
  show bH.gI v (ds.foldl rQ (rQ W d))=ndA v ds (if d.1=v then max (bH.gI v W) d.2 else bH.gI v W);rw[aeS v ds,rQ,JB];grind
theorem xJ:∀{W}{x}{d},d∈yS (oF W x)↔d∈yS W\/d=x.1
 |[],x,d=>by simp[oF]
 |y::W,x,d=>by
  unfold oF;have:=xJ (W:=W) (x:=x) (d:=d);grind
theorem Qj:∀{W}{x},(yS W).Nodup->(yS (oF W x)).Nodup
 |[],x,_=>by simp[oF]
 |y::W,x,h=>by
  have h':=nodup_cons.1 h;unfold oF;split
  .grind
  .rename_i e;refine nodup_cons.2 ⟨fun hm=>?_,Qj h'.2⟩;rcases xJ.1 hm with hm|hm
   .exact h'.1 hm
   grind
theorem UE{d}:∀{ds W},d∈yS (ds.foldl rQ W)↔d∈yS W\/d∈yS ds
 |[],W=>zS
 |x::ds,W=>by
  show d∈yS (ds.foldl rQ (rQ W x))↔_;rw[UE ,rQ,xJ];grind
theorem aeT:∀{ds W:List D},(yS W).Nodup->(yS (ds.foldl rQ W)).Nodup
 |[],_,h=>h
 |x::ds,W,h=>aeT (ds:=ds) (Qj h)
theorem aaM v{a b}(h:a.Perm b)n:ndA v a n=ndA v b n:=by
 exact h.foldl_eq' (fun x _ y _ z=>by split<;>split<;>omega) n
def En(m:List OP):List D:=(m.map lat).flatten
def ahq(v:Int)(m:List OP):Int:=ndA v (En m) 0
def has(m:List OP)(d s:Int):Bool:=m.any fun o=>decide (dt o=(d,s))
theorem ady{m}{d s}:has m d s=true↔∃o∈m,dt o=(d,s):=by simp[has]
def Wx:List Int:=(List.range 512).map fun n:Nat=>(n:Int)
theorem Qk:Wx.Pairwise (·<·):=by grind[Wx,pairwise_lt_range.imp]
theorem aaN{x}:x∈Wx↔0<=x/\x<512:=by
 unfold Wx;rw[yG];constructor
 .grind
 .rintro ⟨h1,h2⟩;exact⟨x.toNat,mem_range.2 zO,zO⟩
theorem UF{o}(h:vO o=true):∀d∈lat o,0<=d.1/\d.1<512/\1<=d.2/\d.2<=1048576:=fun d hd=>by
 have h1:=(ji.1 (ug h).1);rcases yI.1 hd with hd|hd
 .exact ji.1 ((aeR h).qV d hd)
 .grind
theorem alD xs(g n i:Nat)(hw:xs.length<=1000000)(hn:n<=xs.length)(hi:i<n)(hd:∀x∈xs,AV.aM [] x=true)(out:aS)H'(h:((i-0+length (List.take (n-(i+1)) (List.drop (0+(i+1)) xs))<=length xs)/\((length (List.take (n-(i+1)) (List.drop (0+(i+1)) xs))=n-(i+1))/\((0<=(↑(i-0+length (List.take (n-(i+1)) (List.drop (0+(i+1)) xs))):Int)/\↑(i-0+length (List.take (n-(i+1)) (List.drop (0+(i+1)) xs)))<=(n:Int)/\0+n<=(↑(length (List.take (i-0) xs++(List.take (n-(i+1)) (List.drop (0+(i+1)) xs)++List.drop (i-0+length (List.take (n-(i+1)) (List.drop (0+(i+1)) xs))) xs))):Int))/\(aS.ret (AV.aU 0 (g+1) 0 (Int.toNat i-0+length (List.take (Int.toNat n-Int.toNat ↑(i+1)) (List.drop (0+Int.toNat ↑(i+1)) xs))))=out)/\([ah.aN (g+1) 17 false (List.take (0+Int.toNat (↑(Int.toNat i-Int.toNat 0+length (List.take (Int.toNat n-Int.toNat ↑(i+1)) (List.drop (0+Int.toNat ↑(i+1)) xs))):Int)) (List.take (Int.toNat i-0) xs++(List.take (Int.toNat n-Int.toNat ↑(i+1)) (List.drop (0+Int.toNat ↑(i+1)) xs)++List.drop (Int.toNat i-0+length (List.take (Int.toNat n-Int.toNat ↑(i+1)) (List.drop (0+Int.toNat ↑(i+1)) xs))) xs))++(replicate (Int.toNat n-Int.toNat ↑(Int.toNat (i:Int)-Int.toNat 0+length (List.take (Int.toNat (n:Int)-Int.toNat (↑(i+1):Int)) (List.drop (0+Int.toNat (↑(i+1):Int)) xs)))) [int 0,int 0,int 0,aK,int 0,str (ByteArray.mk #[]),int 0,int 0,int 0,int 0,int 0,int 0,int 0,str (ByteArray.mk #[]),str (ByteArray.mk #[]),int 0,Am.bool false]++List.drop (0+Int.toNat ↑(Int.toNat (i:Int)-Int.toNat 0+length (List.take (Int.toNat (n:Int)-Int.toNat (↑(i+1):Int)) (List.drop (0+Int.toNat (↑(i+1):Int)) xs)))+(Int.toNat n-Int.toNat ↑(Int.toNat (i:Int)-Int.toNat 0+length (List.take (Int.toNat (n:Int)-Int.toNat (↑(i+1):Int)) (List.drop (0+Int.toNat (↑(i+1):Int)) xs))))) (List.take (Int.toNat i-0) xs++(List.take (Int.toNat n-Int.toNat ↑(i+1)) (List.drop (0+Int.toNat ↑(i+1)) xs)++List.drop (Int.toNat i-0+length (List.take (Int.toNat n-Int.toNat ↑(i+1)) (List.drop (0+Int.toNat ↑(i+1)) xs))) xs))))]=H'))))):ak P G 40 [.aU 0 g 0 n,int ↑i,int ↑(i+1)] [ah.aN g 17 false xs] out H':=by
 have bS:g=g:=(rfl);have qj:g+1=g+1:=(rfl);obtain⟨o2,h⟩:=h;obtain⟨o3,h⟩:=h;obtain⟨o4,h⟩:=h;obtain⟨e1,eH⟩:=h;exact ak.heap (e1▸((aj [kp bS,kp bS,kp (show(0:Int)<=(i:Int)/\(i:Int)<=(↑(i+1):Int)/\(↑(i+1):Int)<=(n:Int)/\(n:Int)<=(n:Int)from zO),kf (show((i:Int)==(↑(i+1):Int))=false from(qF zO)),ko (bC.aU),ko (bC.aeD (aS.ret AV.aP) []),kp bS,kp bS,Ga (0:Int) (i:Int) (n:Int),kp bS,Ga (↑(i+1):Int) (n:Int) (n:Int),kp bS,kp o2,kp bS,kp o3,kp qj,kp qj,kp o4,kp (show 0<17 from zO),kp qj,kp (show 0+Int.toNat (↑(Int.toNat (i:Int)-Int.toNat 0+length (List.take (Int.toNat (n:Int)-Int.toNat (↑(i+1):Int)) (List.drop (0+Int.toNat (↑(i+1):Int)) xs))):Int)+(Int.toNat (n:Int)-Int.toNat (↑(Int.toNat (i:Int)-Int.toNat 0+length (List.take (Int.toNat (n:Int)-Int.toNat (↑(i+1):Int)) (List.drop (0+Int.toNat (↑(i+1):Int)) xs))):Int))<=length (List.take (Int.toNat (i:Int)-0) xs++(List.take (Int.toNat (n:Int)-Int.toNat (↑(i+1):Int)) (List.drop (0+Int.toNat (↑(i+1):Int)) xs)++List.drop (Int.toNat (i:Int)-0+length (List.take (Int.toNat (n:Int)-Int.toNat (↑(i+1):Int)) (List.drop (0+Int.toNat (↑(i+1):Int)) xs))) xs))from(by simp only[y31]at *;omega))]))) eH
def jE(S:List D):List (Value×AV):=S.map fun d=>(.int .i64 d.1,int d.2)
theorem oG S(n:Nat):∀e∈jE S,AV.bP n e.2=true:=fun e he=>by
 obtain⟨x,_,rfl⟩:=yG.1 he;rfl
def jR:ah:=.iV .ready none (aC 48 [(4,.ptr 2 0)]) #[22] (KP P 16 0) (uT P 16 0)
def jD:ah:=.iV .done (some (.exit 3)) (aC 48 [(4,.ptr 2 0)]) #[22] (KP P 16 0) (uT P 16 0)
def rH(o:OP)(S:List D):List ah:=[jR,.box (jy o),.box [.mp 3],.map (jE S)]
def rD(o:OP)(S:List D):List ah:=[jD,.box (jy o),.box [.mp 3],.map (jE S)]
theorem aph(o:OP)S(a b v:Int)f(hG:bT P 3 (jE S) (.int .i64 a) (int 0) (int v) f)(hv:¬v<b)(h:True):dY P G 0 [eG (a,b)] (rH o S) true (rH o S):=by
 exact jI (fun _=>[ko (bC.lJ (int v) f),kp hG,kj (v<b),kp (show ∀ e,e∈jE S->AV.bP (length (rH o S)) e.2=true from(oG _ _))]) (fun _=>zQ)
theorem apj(o:OP)S(a b v:Int)f(hG:bT P 3 (jE S) (.int .i64 a) (int 0) (int v) f)(hv:¬v<b)(h:True):dY P G 0 [eG (a,b)] (rH o S++[ah.box [int a,int b]]) true (rH o S++[ah.box [int a,int b]]):=by
 exact jI (fun _=>[ko (bC.lJ (int v) f),kp hG,kj (v<b),kp (show ∀ e,e∈jE S->AV.bP (length (rH o S++[ah.box [int a,int b]])) e.2=true from(oG _ _))]) (fun _=>zQ)
theorem apk(o:OP)S(a b v:Int)f(hG:bT P 3 (jE S) (.int .i64 a) (int 0) (int v) f)(hv:v<b)(h:True):dY P G 0 [eG (a,b)] (rH o S) false (rD o S):=by
 exact jI (fun _=>[ko (bC.lJ (int v) f),kp hG,ki (v<b),kp (show ∀ e,e∈jE S->AV.bP (length (rH o S)) e.2=true from(oG _ _))]) (fun _=>zQ)
theorem apl(o:OP)S(a b v:Int)f(hG:bT P 3 (jE S) (.int .i64 a) (int 0) (int v) f)(hv:v<b)(h:True):dY P G 0 [eG (a,b)] (rH o S++[ah.box [int a,int b]]) false (rD o S++[ah.box [int a,int b]]):=by
 exact jI (fun _=>[ko (bC.lJ (int v) f),kp hG,ki (v<b),kp (show ∀ e,e∈jE S->AV.bP (length (rH o S++[ah.box [int a,int b]])) e.2=true from(oG _ _))]) (fun _=>zQ)
def Dz(o:OP)(H:List ah)(k:Nat):St:={ aL:=aC 31 [(0,.yl 0),(1,.ptr 1 0),(6,bB o.cx),(7,int o.cx.length),(8,int k)],H:=H }
theorem apm(o:OP)S(k:Nat)a b(hl:o.cx.length<=1000000000)(hk:(k:Int)<o.cx.length)(hx:o.cx[k]?=some (a,b))(hY:dY P G 0 [eG (a,b)] (rH o S++[.box [int a,int b]]) true (rH o S++[.box [int a,int b]]))(ex:bF)s'(h:Rq 4 71 0 (sM 31 [(0,.yl 0),(1,.ptr 1 0),(6,bB o.cx),(7,int ↑(length o.cx)),(8,int ↑(k+1))] [jR,.box (jy o),.box [.mp 3],.map (jE S)]) ex s'):Rq 4 71 0 (Dz o (rH o S) k) ex s':=by
 exact aJ [ki ((k:Int)<(↑(length o.cx):Int)),ko (bC.elem (bH.aQ (a,b))),ko (bC.call [] (aS.ret (Am.bool true)) (rH o S++[ah.box [int a,int b]])),kp (show(0:Int)<=(k:Int)/\(au o.cx)[Int.toNat (k:Int)]?=some (bH.aQ (a,b))from(bG hx)),kp hY,kY,kW 16 (k+1) ↑(k+1),kp (show ∀(e:Value×AV),e∈jE S->AV.bP 4 e.2=true from(oG _ _))] (aB 31 [0,1,6,7,8]) 4 h
theorem apn(o:OP)S(k:Nat)a b(hl:o.cx.length<=1000000000)(hk:(k:Int)<o.cx.length)(hx:o.cx[k]?=some (a,b))(hY:dY P G 0 [eG (a,b)] (rH o S++[.box [int a,int b]]) false (rD o S++[.box [int a,int b]]))(h:True):Rq 4 71 0 (Dz o (rH o S) k) bF.ret (St.mk (aC 31 []) (rD o S) []):=by
 exact aG [ki ((k:Int)<↑(length o.cx)),ko (bC.elem (bH.aQ (a,b))),ko (bC.call [] (aS.ret (Am.bool false)) (rD o S++[ah.box [int a,int b]])),kp (show(0:Int)<=k/\(au o.cx)[Int.toNat k]?=some (bH.aQ (a,b))from(bG hx)),kp hY,kO,kp (show ∀ e,e∈jE S->AV.bP 4 e.2=true from(oG _ _))] (aB 31 []) 4
theorem apo(o:OP)S(k:Nat)(hl:o.cx.length<=1000000000)(hk:¬(k:Int)<o.cx.length)(h:True):Rq 4 71 0 (Dz o (rH o S) k) (bF.exit 0) (St.mk (aC 31 [(0,AV.yl 0),(1,AV.ptr 1 0)]) (rH o S) []):=by
 exact aG [kj ((k:Int)<↑(length o.cx))] (aB 31 [0,1]) 4
theorem apq(o:OP)S(hl:o.cx.length<=1000000000)(hL:Rq 4 71 0 (Dz o (rH o S) 0) .ret { aL:=aC 31 [],H:=rD o S })(h:True):ak P G 71 [.yl 0,.ptr 1 0] (rH o S) (aS.ret (AV.bq [])) (rD o S):=by
 exact aj [kN 7 (Go.bH.ay o.cx),kl (rG [(2,4),(9,22)]) 4 hL]
theorem apr(o:OP)S(hl:o.cx.length<=1000000000)(hs:¬1<o.sq)(hL:Rq 4 71 0 (Dz o (rH o S) 0) (.exit 0) { aL:=aC 31 [(0,.yl 0),(1,.ptr 1 0)],H:=rH o S })(h:True):ak P G 71 [.yl 0,.ptr 1 0] (rH o S) (aS.ret (AV.bq [])) (rH o S):=by
 exact aj [kN 7 (Go.bH.ay o.cx),kl (rG [(2,4),(9,22)]) 4 hL,kj (o.sq>1)]
theorem aps(o:OP)S(hl:o.cx.length<=1000000000)(hs:1<o.sq)(hq:o.sq<=1048576)(hY:dY P G 0 [eG (o.dv,o.sq-1)] (rH o S) true (rH o S))(hL:Rq 4 71 0 (Dz o (rH o S) 0) (.exit 0) { aL:=aC 31 [(0,.yl 0),(1,.ptr 1 0)],H:=rH o S })(h:True):ak P G 71 [.yl 0,.ptr 1 0] (rH o S) (aS.ret (AV.bq [])) (rH o S):=by
 exact aj [kN 7 (Go.bH.ay o.cx),kl (rG [(2,4),(9,22)]) 4 hL,ki (o.sq>1),kW 28 (o.sq-1) (o.sq-1),ko (bC.call [] (aS.ret (Am.bool true)) (rH o S)),kp hY]
theorem apu(o:OP)S(hl:o.cx.length<=1000000000)(hs:1<o.sq)(hq:o.sq<=1048576)(hY:dY P G 0 [eG (o.dv,o.sq-1)] (rH o S) false (rD o S))(hL:Rq 4 71 0 (Dz o (rH o S) 0) (.exit 0) { aL:=aC 31 [(0,.yl 0),(1,.ptr 1 0)],H:=rH o S })(h:True):ak P G 71 [.yl 0,.ptr 1 0] (rH o S) (aS.ret (AV.bq [])) (rD o S):=by
 exact aj [kN 7 (Go.bH.ay o.cx),kl (rG [(2,4),(9,22)]) 4 hL,ki (o.sq>1),kW 28 (o.sq-1) (o.sq-1),ko (bC.call [] (aS.ret (Am.bool false)) (rD o S)),kp hY]
def rB(xs:List (List AV))(g:Nat)(S:List D):List ah:=[.aH,.aH,.aH,.aH,.aH,.aH,.aH,.aH,.aN g 17 false xs,.map (jE S),.box [.mp 9]]
def rB1(xs:List (List AV))(g:Nat)(S:List D)(g2:Nat)(v:List OP):List ah:=rB xs g S++[.aH,.aH,.uE,.aH,.aN g2 17 false (dZ v)]
def rS0(xs:List (List AV))(g n:Nat)(S:List D):St:={ aL:=aC 48 [(2,aK),(3,.aU 8 g 0 n),(4,.ptr 10 0)],H:=rB xs g S,dh:=[.nK 10] }
def rC0(xs:List (List AV))(g n:Nat)(S:List D)(i:Nat):St:={ aL:=aC 48 [(2,aK),(3,.aU 8 g 0 n),(4,.ptr 10 0),(13,.aU 8 g 0 n),(14,int n),(15,int i)],H:=rB xs g S,dh:=[.nK 10] }
def rS1(xs:List (List AV))(g n:Nat)(S:List D)(g2:Nat)(v:List OP):St:={ aL:=aC 48 [(2,.aU 15 g2 0 v.length),(3,.aU 8 g 0 n),(4,.ptr 10 0)],H:=rB1 xs g S g2 v,dh:=[.nK 13,.kC 13 10] }
def rC1(xs:List (List AV))(g n:Nat)(S:List D)(g2:Nat)(v:List OP)(i:Nat):St:={ aL:=aC 48 [(2,.aU 15 g2 0 v.length),(3,.aU 8 g 0 n),(4,.ptr 10 0),(13,.aU 8 g 0 n),(14,int n),(15,int i)],H:=rB1 xs g S g2 v,dh:=[.nK 13,.kC 13 10] }
theorem Lh S:∀e∈jE S,AV.gN [] e.2=true:=fun e he=>by
 obtain⟨x,_,rfl⟩:=yG.1 he;rfl
theorem alE xs(g n i:Nat)S(o:OP)(hw:n<=1000000)(wR:∀x∈xs,AV.aM [] x=true)(hi:i<(n:Int))(hx:xs[0+i]?=some (jy o))(hF:ak P G 71 [.yl 0,.ptr 1 0] (rH o S) (.ret (.bq [])) (rD o S))ex(s':St)(h:Rq 0 16 1 (St.mk (aC 48 [(2,aK),(3,AV.aU 8 g 0 n),(4,AV.ptr 10 0),(13,AV.aU 8 g 0 n),(14,int ↑n),(15,int ↑(i+1))]) [ah.aH,ah.aH,ah.aH,ah.aH,ah.aH,ah.aH,ah.aH,ah.aH,ah.aN g 17 false xs,ah.map (jE S),ah.box [AV.mp 9]] [ig.nK 10]) ex s'):Rq 0 16 1 (rC0 xs g n S i) ex s':=by
 have fT:g=g:=(rfl);have qj:∀(e:Value×AV),e∈jE S->AV.gN [] e.2=true:=(Lh _);exact aJ [ki ((i:Int)<n),ko (bC.elem (jy o)),kp fT,kR (i:Int) (n:Int),kp fT,kp hx,kc [] (@Ac (o) (trivial)),ko (bC.range [2,3,5,6,13,14,15,16,17,18,19,20,21] 0 none bF.normal [] []),kc [14,12,10,9] hF,kp qj,kp qj,kW 46 (i+1) ↑(i+1),kp (show ∀(x:List AV),x∈xs->AV.aM [] x=true from zO),kp (show ∀(e:Value×AV),e∈jE S->AV.bP 11 e.2=true from(oG _ _))] (aB 48 [2,3,4,13,14,15]) 11 h
theorem alF(xs ys:List (List AV))(g n m i:Nat)(S S':List D)(o:OP)(hw:n<=1000000)(hys:∀x∈ys,AV.aM [] x=true)(wR:∀x∈xs,AV.aM [] x=true)(hi:(i:Int)<(n:Int))(hx:xs[0+i]?=some (jy o))(hF:ak P G 71 [.yl 0,.ptr 1 0] (rH o S) (.ret (.bq [])) (rH o S))(hP:jm P 3 (jE S) (.int .i64 o.dv) (int o.sq) (jE S'))(hD:ak P G 40 [.aU 0 g 0 n,int i,int (i+1:Nat)] [.aN g 17 false xs] (.ret (.aU 0 (g+1) 0 m)) [.aN (g+1) 17 false ys])(h:True):Rq 0 16 1 (rC0 xs g n S i) (bF.exit 1) (rS1 ys (g+1) m S' 0 [o]):=by
 have fT:g=g:=(rfl);have qj:∀(e:Value×AV),e∈jE S->AV.gN [] e.2=true:=(Lh _);have Bb:∀(x:List AV),x∈ys->AV.aM [] x=true:=zO;exact bN.to (bN.qm ((show Rq 0 16 1 (rC0 xs g n S i) (bF.exit 1) (St.mk (aC 48 [(2,AV.aU 15 0 0 (length [o])),(3,AV.aU 8 (g+1) 0 m),(4,AV.ptr 10 0)]) [ah.aH,ah.aH,ah.aH,ah.aH,ah.aH,ah.aH,ah.aH,ah.aH,ah.aN (g+1) 17 false ys,ah.map (jE S'),ah.box [AV.mp 9],ah.box [int o.dv,int o.sq,int o.tm,AV.sl 2 false (au o.cx),int o.pk,str o.pn,int o.kd,int o.f1,int o.f2,int o.f3,int o.t1,int o.t2,int o.t3,str o.ky,str o.vl,int o.n,Am.bool o.on],ah.box [int o.dv,int o.sq,int o.tm,AV.sl 2 false (au o.cx),int o.pk,str o.pn,int o.kd,int o.f1,int o.f2,int o.f3,int o.t1,int o.t2,int o.t3,str o.ky,str o.vl,int o.n,Am.bool o.on],ah.uE,ah.aH,ah.aN 0 17 false (dZ [o])] [ig.nK 13,ig.kC 13 10])from aG [ki ((i:Int)<n),ko (bC.elem (jy o)),kp fT,kR (i:Int) (n:Int),kp fT,kp hx,kc [] (@Ac (o) (trivial)),ko (bC.range [2,3,5,6,13,14,15,16,17,18,19,20,21] 0 none bF.normal [] []),kc [14,12,10,9] hF,ko (bC.wT (jE S')),kp qj,kp qj,Qx (jy o),vV 176,kp hP,kW 44 (i+1) ↑(i+1),kc [8] hD,kp Bb,kp (show ∀(x:List AV),x∈xs->AV.aM [] x=true from zO),kp Bb,kp (show ∀(e:Value×AV),e∈jE S'->AV.bP 16 e.2=true from(oG _ _)),kp (show ∀(x:List AV),x∈[[int o.dv,int o.sq,int o.tm,AV.sl 2 false (au o.cx),int o.pk,str o.pn,int o.kd,int o.f1,int o.f2,int o.f3,int o.t1,int o.t2,int o.t3,str o.ky,str o.vl,int o.n,Am.bool o.on]]->AV.aM [] x=true from(by exact(Am.dM rfl Am.eU)))] (aB 48 [2,3,4]) 16)) (by exact⟨.inl rfl,.inl rfl,.inl rfl,.inl rfl,.inl rfl,.inl rfl,.inl rfl,.inl rfl,.inl rfl,.inl rfl,.inl rfl,.inr yO,.inr yO,.inl rfl,.inl rfl,.inl rfl,yO⟩)) rfl (eB.aC ⟨rfl,y34,rfl,y34,rfl,y34,yO⟩)
theorem aeU xs(g n i:Nat)S(hw:n<=1000000)(wR:∀x∈xs,AV.aM [] x=true)(hi:¬(i:Int)<n)ex(s':St)(h:(bF.exit 2=ex)/\(St.mk (aC 48 [(2,aK)]) [ah.aH,ah.aH,ah.aH,ah.aH,ah.aH,ah.aH,ah.aH,ah.aH,ah.aN g 17 false xs,ah.map (jE S),ah.box [AV.mp 9]] [ig.nK 10]=s')):Rq 0 16 1 (rC0 xs g n S i) ex s':=by
 obtain⟨eX,eS⟩:=h;exact bN.to ((aG [kj ((i:Int)<n)] (aB 48 [2]) 11)) eX (eB.of_eq eS)
theorem alG xs(g n i:Nat)S(g2:Nat)v(hv:v.length<=1000000)o(hw:n<=1000000)(wR:∀x∈xs,AV.aM [] x=true)(hi:(i:Int)<n)(hx:xs[0+i]?=some (jy o))(hF:ak P G 71 [.yl 0,.ptr 1 0] (rH o S) (.ret (.bq [])) (rD o S))ex(s':St)(h:Rq 0 16 1 (St.mk (aC 48 [(2,AV.aU 15 g2 0 v.length),(3,AV.aU 8 g 0 n),(4,AV.ptr 10 0),(13,AV.aU 8 g 0 n),(14,int ↑n),(15,int ↑(i+1))]) [ah.aH,ah.aH,ah.aH,ah.aH,ah.aH,ah.aH,ah.aH,ah.aH,ah.aN g 17 false xs,ah.map (jE S),ah.box [AV.mp 9],ah.aH,ah.aH,ah.uE,ah.aH,ah.aN g2 17 false (dZ v)] [ig.nK 13,ig.kC 13 10]) ex s'):Rq 0 16 1 (rC1 xs g n S g2 v i) ex s':=by
 have fT:g=g:=(rfl);have qj:∀(e:Value×AV),e∈jE S->AV.gN [] e.2=true:=(Lh _);exact aJ [ki ((i:Int)<n),ko (bC.elem (jy o)),kp fT,kR (i:Int) (n:Int),kp fT,kp hx,kc [] (@Ac (o) (trivial)),ko (bC.range [2,3,5,6,13,14,15,16,17,18,19,20,21] 0 none bF.normal [] []),kc [19,17,10,9] hF,kp qj,kp qj,kW 46 (i+1) ↑(i+1),kp (show ∀(x:List AV),x∈xs->AV.aM [] x=true from zO),kp (show ∀(e:Value×AV),e∈jE S->AV.bP 16 e.2=true from(oG _ _)),kp (iY v)] (aB 48 [2,3,4,13,14,15]) 16 h
theorem alH(xs ys:List (List AV))(g n m i:Nat)(S S':List D)(g2:Nat)(v:List OP)(hv:v.length<=1000000)(o:OP)(hw:n<=1000000)(hys:∀x∈ys,AV.aM [] x=true)(wR:∀x∈xs,AV.aM [] x=true)(hi:(i:Int)<(n:Int))(hx:xs[0+i]?=some (jy o))(hF:ak P G 71 [.yl 0,.ptr 1 0] (rH o S) (.ret (.bq [])) (rH o S))(hP:jm P 3 (jE S) (.int .i64 o.dv) (int o.sq) (jE S'))(hD:ak P G 40 [.aU 0 g 0 n,int i,int (i+1:Nat)] [.aN g 17 false xs] (.ret (.aU 0 (g+1) 0 m)) [.aN (g+1) 17 false ys])(h:(aF (vk [(2,AV.aU 15 (g2+1) 0 (length v+1)),(3,AV.aU 8 (g+1) 0 m),(4,AV.ptr 10 0)] 2) (vk [(2,AV.aU 15 (g2+1) 0 (length (v++[o]))),(3,AV.aU 8 (g+1) 0 m),(4,AV.ptr 10 0)] 2))/\([ah.aH,ah.aH,ah.aH,ah.aH,ah.aH,ah.aH,ah.aH,ah.aH,ah.aN (g+1) 17 false ys,ah.map (jE S'),ah.box [AV.mp 9],ah.aH,ah.aH,ah.uE,ah.aH,ah.aN (g2+1) 17 false (dZ v++dZ [o])]=rB1 ys (g+1) S' (g2+1) (v++[o]))):Rq 0 16 1 (rC1 xs g n S g2 v i) (bF.exit 1) (rS1 ys (g+1) m S' (g2+1) (v++[o])):=by
 have fT:g=g:=(rfl);have qj:∀(e:Value×AV),e∈jE S->AV.gN [] e.2=true:=(Lh _);have M8:∀(x:List AV),x∈ys->AV.aM [] x=true:=zO;obtain⟨e1,eH⟩:=h;exact bN.to ((show Rq 0 16 1 (rC1 xs g n S g2 v i) (bF.exit 1) (St.mk (aC 48 [(2,AV.aU 15 (g2+1) 0 (length v+1)),(3,AV.aU 8 (g+1) 0 m),(4,AV.ptr 10 0)]) [ah.aH,ah.aH,ah.aH,ah.aH,ah.aH,ah.aH,ah.aH,ah.aH,ah.aN (g+1) 17 false ys,ah.map (jE S'),ah.box [AV.mp 9],ah.aH,ah.aH,ah.uE,ah.aH,ah.aN (g2+1) 17 false (dZ v++dZ [o])] [ig.nK 13,ig.kC 13 10])from aG [ki ((i:Int)<n),ko (bC.elem (jy o)),kp fT,kR (i:Int) (n:Int),kp fT,kp hx,kc [] (@Ac (o) (trivial)),ko (bC.range [2,3,5,6,13,14,15,16,17,18,19,20,21] 0 none bF.normal [] []),kc [19,17,10,9] hF,ko (bC.wT (jE S')),kp qj,kp qj,kq g2,kp (aW v).symm,vV ((length v+1)*176),kp hP,kW 44 (i+1) ↑(i+1),kc [8] hD,kp M8,kp (show ∀(x:List AV),x∈xs->AV.aM [] x=true from zO),kp M8,kp (show ∀(e:Value×AV),e∈jE S'->AV.bP 16 e.2=true from(oG _ _)),kp (show ∀(x:List AV),x∈dZ v++[[int o.dv,int o.sq,int o.tm,AV.sl 2 false (au o.cx),int o.pk,str o.pn,int o.kd,int o.f1,int o.f2,int o.f3,int o.t1,int o.t2,int o.t3,str o.ky,str o.vl,int o.n,Am.bool o.on]]->AV.aM [] x=true from(by exact(Am.dx (iY _) (Am.dM rfl Am.eU))))] (aB 48 [2,3,4]) 16)) rfl (eB.af2 ⟨rfl,e1,rfl,y34,rfl,y34,yO⟩ eH)
theorem aeV xs(g n i:Nat)S(g2:Nat)v(hv:v.length<=1000000)(hw:n<=1000000)(wR:∀x∈xs,AV.aM [] x=true)(hi:¬i<(n:Int))(ex:bF)s'(h:(bF.exit 2=ex)/\(St.mk (aC 48 [(2,AV.aU 15 g2 0 v.length)]) [ah.aH,ah.aH,ah.aH,ah.aH,ah.aH,ah.aH,ah.aH,ah.aH,ah.aN g 17 false xs,ah.map (jE S),ah.box [AV.mp 9],ah.aH,ah.aH,ah.uE,ah.aH,ah.aN g2 17 false (dZ v)] [ig.nK 13,ig.kC 13 10]=s')):Rq 0 16 1 (rC1 xs g n S g2 v i) ex s':=by
 obtain⟨eX,eS⟩:=h;exact bN.to ((aG [kj ((i:Int)<n)] (aB 48 [2]) 16)) eX (eB.of_eq eS)
def rX0(xs:List (List AV))(g:Nat)(S:List D):St:={ aL:=aC 48 [(2,aK)],H:=rB xs g S,dh:=[.nK 10] }
def rX1(xs:List (List AV))(g:Nat)(S:List D)(g2:Nat)(v:List OP):St:={ aL:=aC 48 [(2,.aU 15 g2 0 v.length)],H:=rB1 xs g S g2 v,dh:=[.nK 13,.kC 13 10] }
theorem alI xs ys(g n m:Nat)S S'(o:OP)(hw:n<=1000000)(wR:∀x∈xs,AV.aM [] x=true)(hys:∀x∈ys,AV.aM [] x=true)(hI:Rq 0 16 1 (rC0 xs g n S 0) (.exit 1) (rS1 ys (g+1) m S' 0 [o]))ex(s':St)(h:Rq 0 16 0 (St.mk (aC 48 [(2,AV.aU 15 0 0 1),(3,AV.aU 8 (g+1) 0 m),(4,AV.ptr 10 0)]) [ah.aH,ah.aH,ah.aH,ah.aH,ah.aH,ah.aH,ah.aH,ah.aH,ah.aN (g+1) 17 false ys,ah.map (jE S'),ah.box [AV.mp 9],ah.aH,ah.aH,ah.uE,ah.aH,ah.aN 0 17 false [(jy o)]] [ig.nK 13,ig.kC 13 10]) ex s'):Rq 0 16 0 (rS0 xs g n S) ex s':=by
 exact aJ [ko (bC.av (AV.bq [AV.aP,AV.agg [AV.ptr 13 0,AV.jC 13 10 0 0]])),kq g,kl [] 11 hI] (aB 48 [2,3,4]) 16 h
theorem aeW xs(g n:Nat)S(hw:n<=1000000)(wR:∀x∈xs,AV.aM [] x=true)(hI:Rq 0 16 1 (rC0 xs g n S 0) (.exit 2) (rX0 xs g S))(h:True):Rq 0 16 0 (rS0 xs g n S) bF.ret (rX0 xs g S):=by
 exact aG [kq g,kl [] 11 hI] (aB 48 [2]) 11
theorem alJ xs ys(g n m g2:Nat)(S S':List D)v(o:OP)(hw:n<=1000000)(wR:∀x∈xs,AV.aM [] x=true)(hys:∀x∈ys,AV.aM [] x=true)(hI:Rq 0 16 1 (rC1 xs g n S g2 v 0) (.exit 1) (rS1 ys (g+1) m S' (g2+1) (v++[o])))ex(s':St)(h:Rq 0 16 0 (St.mk (aC 48 [(2,AV.aU 15 (g2+1) 0 (length (v++[o]))),(3,AV.aU 8 (g+1) 0 m),(4,AV.ptr 10 0)]) [ah.aH,ah.aH,ah.aH,ah.aH,ah.aH,ah.aH,ah.aH,ah.aH,ah.aN (g+1) 17 false ys,ah.map (jE S'),ah.box [AV.mp 9],ah.aH,ah.aH,ah.uE,ah.aH,ah.aN (g2+1) 17 false (dZ (v++[o]))] [ig.nK 13,ig.kC 13 10]) ex s'):Rq 0 16 0 (rS1 xs g n S g2 v) ex s':=by
 exact aJ [kq g,kl [] 16 hI] (aB 48 [2,3,4]) 16 h
theorem aeX xs(g n g2:Nat)(S:List D)v(hw:n<=1000000)(wR:∀x∈xs,AV.aM [] x=true)(hI:Rq 0 16 1 (rC1 xs g n S g2 v 0) (.exit 2) (rX1 xs g S g2 v))(h:True):Rq 0 16 0 (rS1 xs g n S g2 v) bF.ret (rX1 xs g S g2 v):=by
 exact aG [kq g,kl [] 16 hI] (aB 48 [2]) 16
theorem apv(l u:List OP)W(g:Nat)xs(g3:Nat)S(hu:u.length<=1000000)(wR:∀x∈xs,AV.aM [] x=true)(hk:ak P G 36 [.sl 1 true (Nj [l])] [] (.ret (.mp 0)) [.map W])(hs:ak P G 35 [.mp 0] [.map W] (.ret (.aU 8 g 0 u.length)) [.aH,.aH,.aH,.aH,.aH,.aH,.aH,.aH,.aN g 17 false (dZ u)])(hw:∀e∈W,AV.gN [] e.2=true)(hL:Rq 0 16 0 (rS0 (dZ u) g u.length []) .ret (rX0 xs g3 S))(h:True):Cq 16 [dQ l] aK:=by
 have fT:∀(e:Value×AV),e∈W->AV.gN [] e.2=true:=zO;exact aj [kc [] hk,kp fT,kc [0] hs,ko (bC.av (AV.bq [AV.ptr 10 0,AV.agg [AV.ptr 10 0]])),kp (iY u),kp fT,kl (rG [(0,2),(5,43)]) 11 hL]
theorem apw(l u:List OP)W(g:Nat)xs(g3:Nat)S(g2:Nat)v(hu:u.length<=1000000)(hv:v.length<=1000000)(wR:∀x∈xs,AV.aM [] x=true)(hk:ak P G 36 [.sl 1 true (Nj [l])] [] (.ret (.mp 0)) [.map W])(hs:ak P G 35 [.mp 0] [.map W] (.ret (.aU 8 g 0 u.length)) [.aH,.aH,.aH,.aH,.aH,.aH,.aH,.aH,.aN g 17 false (dZ u)])(hw:∀e∈W,AV.gN [] e.2=true)(out:aS)H'(hL:Rq 0 16 0 (rS0 (dZ u) g u.length []) .ret (rX1 xs g3 S g2 v))(h:(aS.ret (AV.aU 15 g2 0 v.length)=out)/\([ah.aH,ah.aH,ah.aH,ah.aH,ah.aH,ah.aH,ah.aH,ah.aH,ah.aN g3 17 false xs,ah.map (jE S),ah.box [AV.mp 9],ah.aH,ah.aH,ah.aH,ah.aH,ah.aN g2 17 false (dZ v)]=H')):ak P G 16 [dQ l] [] out H':=by
 have fT:∀ e,e∈W->AV.gN [] e.2=true:=zO;obtain⟨e1,eH⟩:=h;exact ak.heap (e1▸((aj [kc [] hk,kp fT,kc [0] hs,ko (bC.av (AV.bq [AV.ptr 10 0,AV.agg [AV.ptr 13 0,AV.jC 13 10 0 0]])),kp (iY u),kp fT,kl (rG [(0,2),(5,43)]) 11 hL]))) eH
def rSn:St:={ aL:=aC 48 [(2,aK),(3,aK),(4,.ptr 2 0)],H:=[.aH,.map [],.box [.mp 1]] }
def rCn:St:={ aL:=aC 48 [(2,aK),(3,aK),(4,.ptr 2 0),(13,aK),(14,int 0),(15,int 0)],H:=[.aH,.map [],.box [.mp 1]] }
theorem alK  (h:True):Rq 0 16 1 rCn (bF.exit 2) (sM 48 [(2,aK)] []):=by
 exact aG [kY] (aB 48 [2]) 0
theorem alL  (h:True):Rq 0 16 0 rSn bF.ret (sM 48 [(2,aK)] []):=by
 exact aG [kl [] 3 (@alK (trivial))] (aB 48 [2]) 0
theorem apx(l:List OP)W(hk:ak P G 36 [.sl 1 true (Nj [l])] [] (.ret (.mp 0)) [.map W])(hs:ak P G 35 [.mp 0] [.map W] (.ret aK) [.aH])(hw:∀e∈W,AV.gN [] e.2=true)(h:True):Cq 16 [dQ l] aK:=by
 have fT:∀ e,e∈W->AV.gN [] e.2=true:=zO;exact aj [kc [] hk,kp fT,kc [0] hs,kp fT,kl (rG [(0,2),(5,43)]) 3 (@alL (trivial))]
def Ad(o:OP):Bool:=decide ((o.cx.length:Int)<=12)&&decide ((o.vl.size:Int)<=300)&&decide ((o.ky.size:Int)<=300)&&decide ((o.pn.size:Int)<=300)
theorem aaO l(m:Int)(hl:l.length<=9223372036854775807):∀n k,l.length-k=n->k<=l.length->Rq 0 12 0 (fwS l m k) (if(l.drop k).all Ad=true then .exit 0 else .ret) { aL:=aC 44 (if(l.drop k).all Ad=true then[(0,dQ l),(1,int m),(4,Am.bool false)]else[(4,Am.bool false)]),H:=[] }:=by
 intro n
 induction n with
 |zero =>
  intro k hn hk;rw[y17 zO];exact alC l m k hl zO trivial
 |succ n ih =>
  intro k hn hk;have bg:k<l.length:=zO
  have hx:=yA bg;have nx:=ih (k+1) zO zO;rw[y01 bg,all_cons];by_cases h1:(l[k].cx.length:Int)<=12
  .by_cases h2:(l[k].vl.size:Int)<=300
   .by_cases h3:(l[k].ky.size:Int)<=300
    .by_cases h4:(l[k].pn.size:Int)<=300
     .have e:Ad l[k]=true:=by simp[Ad,h1,h2,h3,h4]
      rw[e];exact alB l m _ k hl zO hx h1 h2 h3 h4 _ _ nx
     .have e:Ad l[k]=false:=by simp[Ad,h4]
      rw[e];exact alA l m _ k hl zO hx h1 h2 h3 zO _ _ ⟨rfl,rfl⟩
    .have e:Ad l[k]=false:=by simp[Ad,h3]
     rw[e];exact alz l m _ k hl zO hx h1 h2 zO _ _ ⟨rfl,rfl⟩
   .have e:Ad l[k]=false:=by simp[Ad,h2]
    rw[e];exact aly l m _ k hl zO hx h1 zO _ _ ⟨rfl,rfl⟩
  .have e:Ad l[k]=false:=by simp[Ad,h1]
   rw[e];exact alx l m _ k hl zO hx zO _ _ ⟨rfl,rfl⟩
theorem alM l(m:Int)(hl:l.length<=9223372036854775807)b(hb:decide (l.length<=m)=b)(hL:Rq 0 12 0 (fwS l m 0) (.exit 0) { aL:=aC 44 [(0,dQ l),(1,int m),(4,Am.bool false)],H:=[] })(h:(decide (l.length<=m))=(b)):Cq 12 [dQ l,int m] (Am.bool b):=by
 exact aA (aF.aI h) [kl (rG [(2,2),(6,38)]) 0 hL,kN 41 (aW l)]
theorem alN l(m:Int)(hL:Rq 0 12 0 (fwS l m 0) .ret { aL:=aC 44 [(4,Am.bool false)],H:=[] })(h:True):Cq 12 [dQ l,int m] (Am.bool false):=by
 exact aj [kl (rG [(2,2),(6,38)]) 0 hL]
theorem ahr l(m:Int)(hl:l.length<=9223372036854775807):Cq 12 [dQ l,int m] (Am.bool (l.all Ad&&decide (l.length<=m))):=by
 have h:=aaO l m hl _ 0 rfl yN;rw[drop_zero]at h;cases e:l.all Ad with
 |true =>
  rw[e]at h;exact alM l m hl _ rfl h rfl
 |false =>
  rw[e]at h;exact alN l m h trivial
theorem Fa a b(ha:a.length<=1000000)(he:a.length=b.length)(hc:∀x∈a,x.cx.length<=1000000000):∀n k,a.length-k=n->k<=a.length->Rq 0 13 0 (smS a b k) (if a.drop k=b.drop k then .exit 0 else .ret) { aL:=aC 27 [(4,Am.bool false)],H:=[] }:=by
 intro n
 induction n with
 |zero =>
  intro k hn hk;rw[y17 zO,y17 zO];exact ahp a b k ha zO _ _ ⟨rfl,rfl⟩
 |succ n ih =>
  intro k hn hk;have bg:k<a.length:=zO
  have hlb:k<b.length:=zO
  have nx:=ih (k+1) zO zO;rw[y01 bg,y01 hlb];refine E9 a b k ha _ _ (yA bg) (yA hlb) zO _ (bV.C9 a[k] b[k] (hc _ (y03 _))) _ _ ⟨fun h=>?_,fun h=>?_⟩
  .have h:=y18 h;simp only[List.cons.injEq,h,true_and];exact nx
  .grind
theorem ahs a b(hb:(a.length:Int)=b.length)(hL:Rq 0 13 0 (smS a b 0) (.exit 0) { aL:=aC 27 [(4,Am.bool false)],H:=[] })(h:True):Cq 13 [dQ a,dQ b] (Am.bool true):=by
 exact aj [kN 7 (aW a),kN 9 (aW b),kf (show((a.length:Int)!=b.length)=false from(y32 (qT zO))),kl (rG [(2,2),(6,21)]) 0 hL]
theorem aht a b(hb:(a.length:Int)=b.length)(hL:Rq 0 13 0 (smS a b 0) .ret { aL:=aC 27 [(4,Am.bool false)],H:=[] })(h:True):Cq 13 [dQ a,dQ b] (Am.bool false):=by
 exact aj [kN 7 (aW a),kN 9 (aW b),kf (show((a.length:Int)!=b.length)=false from(y32 (qT zO))),kl (rG [(2,2),(6,21)]) 0 hL]
theorem ahu a b(hb:¬(a.length:Int)=b.length)(h:True):Cq 13 [dQ a,dQ b] (Am.bool false):=by
 exact aj [kN 7 (aW a),kN 9 (aW b),kt (y32 (qF zO))]
theorem zG a b(ha:a.length<=1000000)(hc:∀x∈a,x.cx.length<=1000000000):Cq 13 [dQ a,dQ b] (Am.bool (decide (a=b))):=by
 by_cases he:a.length=b.length
 .have h:=Fa a b ha he hc _ 0 rfl yN;rw[drop_zero,drop_zero]at h;by_cases e:a=b
  .rw [yL e]at h;rw[y19 e];exact ahs a b zO h trivial
  .rw [yK e]at h;rw[y20 e];exact aht a b zO h trivial
 .rw [y20 (fun e=>he (by rw[e]))];exact ahu a b zO trivial
open Go.ChangeMaps
theorem qQ:Maps.Keyed P 3:=Maps.int_keyed Tryz.underlying3
theorem BD{a}(h:fO a):∃l,keyOf P 3 (.int .i64 a)=some l:=⟨_,Maps.keyOf_int_mk Tryz.underlying3 h.wf⟩
theorem Hf{S}(h:∀d∈S,fO d.1):∀e∈jE S,∃l,keyOf P 3 e.1=some l:=fun e he=>by
 obtain⟨x,hx,rfl⟩:=yG.1 he;exact BD (h x hx)
theorem JD a:∀S:List D,(∃us v bs,S=us++(a,v)::bs/\bH.gI a S=v/\∀v',oF S (a,v')=us++(a,v')::bs)\/((∀d∈S,d.1≠a)/\bH.gI a S=0/\∀v',oF S (a,v')=S++[(a,v')])
 |[]=>.inr ⟨nofun,rfl,fun _=>rfl⟩
 |(b,w)::S=>by
  by_cases e:b=a
  .subst e;exact .inl ⟨[],w,S,rfl,by simp[bH.gI],fun v'=>by simp[oF]⟩
  .rcases JD a S with⟨us,v,bs,h1,h2,h3⟩|⟨h1,h2,h3⟩
   .exact .inl ⟨(b,w)::us,v,bs,by rw[h1];rfl,by rw[bH.gI,yK e,h2],fun v'=>by rw[oF,yK e,h3];rfl⟩
   .refine .inr ⟨fun d hd=>?_,by rw[bH.gI,yK e,h2],fun v'=>by rw[oF,yK e,h3];rfl⟩;grind
theorem I7{S}(h:∀d∈S,fO d.1){a}(ha:fO a):∃f,bT P 3 (jE S) (.int .i64 a) (int 0) (int (bH.gI a S)) f:=by
 rcases JD a S with⟨us,v,bs,h1,h2,_⟩|⟨h1,h2,_⟩
 .refine ⟨true,qQ,BD ha,Hf h,.inl ⟨rfl,?_⟩⟩;rw[h2];exact yG.2 ⟨(a,v),by rw[h1];simp,rfl⟩
 .refine ⟨false,qQ,BD ha,Hf h,.inr ⟨rfl,by rw[h2],fun e he hq=>?_⟩⟩;obtain⟨x,hx,rfl⟩:=yG.1 he;grind
theorem SE{S}(h:∀d∈S,fO d.1){a}(ha:fO a)v:jm P 3 (jE S) (.int .i64 a) (int v) (jE (oF S (a,v))):=by
 rcases JD a S with⟨us,w,bs,h1,_,h3⟩|⟨h1,_,h3⟩
 .refine ⟨qQ,BD ha,Hf h,.inl ⟨jE us,jE bs,int w,?_,?_⟩⟩
  .rw [h1];simp[jE]
  .rw [h3];simp[jE]
 .refine ⟨qQ,BD ha,Hf h,.inr ⟨fun e he hq=>?_,by rw[h3];simp[jE]⟩⟩;obtain⟨x,hx,rfl⟩:=yG.1 he;grind
theorem Fb{S}(h:∀d∈S,fO d.1){a v}(ha:fO a):∀d∈oF S (a,v),fO d.1:=fun d hd=>by
 have:d.1∈yS (oF S (a,v)):=mem_map_of_mem hd;rcases xJ.1 this with h1|h1
 .grind
 grind
theorem SF{o}(hv:vO o=true):∀d∈o.cx,fO d.1:=fun d hd=>by
 have:=ji.1 ((aeR hv).qV d hd);unfold fO;omega
theorem adz(o:OP)S(hv:vO o=true)(hS:∀d∈S,fO d.1)(hl:o.cx.length<=1000000000):∀n k,o.cx.length-k=n->k<=o.cx.length ->
 Rq 4 71 0 (Dz o (rH o S) k) (if((o.cx.drop k).all fun d=>decide (d.2<=bH.gI d.1 S))=true then .exit 0 else .ret) (if((o.cx.drop k).all fun d=>decide (d.2<=bH.gI d.1 S))=true then{ aL:=aC 31 [(0,.yl 0),(1,.ptr 1 0)],H:=rH o S }else{ aL:=aC 31 [],H:=rD o S }):=by
 intro n
 induction n with
 |zero =>
  intro k hn hk;rw[y17 zO];exact apo o S k hl zO trivial
 |succ n ih =>
  intro k hn hk;have bg:k<o.cx.length:=zO
  have hx:o.cx[k]?=some (o.cx[k].1,o.cx[k].2):=yA bg;have nx:=ih (k+1) zO zO;rw[y01 bg,all_cons];obtain⟨f,hg⟩:=I7 hS (SF hv _ (y03 bg));by_cases hq:o.cx[k].2<=bH.gI o.cx[k].1 S
  .rw [y19 hq];exact apm o S k _ _ hl zO hx (apj o S _ _ _ f hg zO yO) _ _ nx
  .rw [y20 hq];exact apn o S k _ _ hl zO hx (apl o S _ _ _ f hg zO yO) trivial
theorem UG(o:OP)S(hv:vO o=true)(hS:∀d∈S,fO d.1)(hl:o.cx.length<=1000000000):ak P G 71 [.yl 0,.ptr 1 0] (rH o S) (.ret (.bq [])) (if met S o=true then rH o S else rD o S):=by
 have h:=adz o S hv hS hl _ 0 rfl yN;rw[drop_zero]at h;unfold met lat;rw[all_append];have hd:=ji.1 (ug hv).1;cases e:o.cx.all fun d=>decide (d.2<=bH.gI d.1 S)with
 |false =>
  rw[e]at h;exact apq o S hl h trivial
 |true =>
  by_cases hs:1<o.sq
  .obtain⟨f,hg⟩:=I7 hS (a:=o.dv) (by unfold fO;omega);by_cases hq:o.sq-1<=bH.gI o.dv S
   .grind [aps,hd,aph]
   .grind [apu,hd,apk]
  .grind [apr]
def apy:List AV:=[int 0,int 0,int 0,aK,int 0,str (ByteArray.mk #[]),int 0,int 0,int 0,int 0,int 0,int 0,int 0,str (ByteArray.mk #[]),str (ByteArray.mk #[]),int 0,Am.bool false]
def dlY(xs:List (List AV))(n i:Nat):List (List AV):=xs.take i++((xs.drop (i+1)).take (n-(i+1))++(apy::xs.drop n))
theorem Eo{xs}(hd:∀x∈xs,AV.aM [] x=true)n i:∀x∈dlY xs n i,AV.aM [] x=true:=fun x hx=>by
 rcases yI.1 hx with hx|hx
 .grind
 .rcases yI.1 hx with hx|hx
  .grind
  .rcases yH.1 hx with rfl|hx
   .rfl
   .grind
theorem UH{xs}{n i}(hn:n<=xs.length)(hi:i<n):(dlY xs n i).length=xs.length:=by
 simp[dlY];omega
theorem aaP{a b}{o}{xs}(h:xs.take (a++o::b).length=dZ (a++o::b))(hn:(a++o::b).length<=xs.length):(dlY xs (a++o::b).length a.length).take (a++b).length=dZ (a++b):=by
 have h1:xs=dZ (a++o::b)++xs.drop (a++o::b).length:=by rw[<- h,y30]
 have e1:xs.take a.length=dZ a:=by
  rw[h1];simp[dZ]
 have e2:(xs.drop (a.length+1)).take ((a++o::b).length-(a.length+1))=dZ b:=by
  have:(a++o::b).length-(a.length+1)=b.length:=by simp;omega
  rw[h1,drop_append_of_le_length (by rw[aW];simp)];have e3:(dZ (a++o::b)).drop (a.length+1)=dZ b:=by
   have:a++o::b=(a++[o])++b:=zS
   rw[this,<- tQ,drop_left' (by simp[aW])]
  grind
 unfold dlY;rw[e1,e2,<- y16,tQ,take_append_of_le_length (by rw[aW];simp),y27 (by rw[aW];simp)]
theorem Pq(xs:List (List AV))(g n i:Nat)(hw:xs.length<=1000000)(hn:n<=xs.length)(hi:i<n)(hd:∀x∈xs,AV.aM [] x=true):ak P G 40 [.aU 0 g 0 n,int i,int (i+1:Nat)] [.aN g 17 false xs] (.ret (.aU 0 (g+1) 0 (n-1))) [.aN (g+1) 17 false (dlY xs n i)]:=by
 have e0:(List.take (n-(i+1)) (List.drop (i+1) xs)).length=n-(i+1):=by rw[y22,length_drop];omega
 have e1:i+(n-(i+1))=n-1:=zO
 have e2:n-(n-1)=1:=zO
 have e3:List.take (n-1) (List.take i xs++(List.take (n-(i+1)) (List.drop (i+1) xs)++List.drop (n-1) xs))=List.take i xs++List.take (n-(i+1)) (List.drop (i+1) xs):=by grind
 have e4:List.drop (n-1+1) (List.take i xs++(List.take (n-(i+1)) (List.drop (i+1) xs)++List.drop (n-1) xs))=List.drop n xs:=by
  have hl:(List.take i xs++List.take (n-(i+1)) (List.drop (i+1) xs)).length=n-1:=by rw[yD,e0,y22];omega
  rw[<- y16,drop_append,drop_drop,hl,y17 (by rw[hl];omega),show n-1+(n-1+1-(n-1))=n by omega];rfl
 refine alD xs g n i hw hn hi hd _ _ ⟨?_,?_,⟨?_,?_,?_⟩,?_,?_⟩<;>simp only[y31,Int.toNat_zero,y12,Nat.sub_zero,e0,e1]
 .omega
 .omega
 .omega
 .grind
 .rw [e2,e3,e4,dlY,y16];rfl
theorem NI{r}{xs:List (List AV)}(h:xs.take r.length=dZ r){i}hi:xs[0+i]?=some (jy r[i]):=by
 have:(xs.take r.length)[i]?=(dZ r)[i]? := by rw[h]
 rw[getElem?_take,yL hi]at this;rw[y12,this];simp[dZ,hi]
structure RS(r:List OP)(xs:List (List AV))(S:List D):Prop where
 rd:xs.take r.length=dZ r
 len:r.length<=xs.length
 Km:xs.length<=1000000
 iw:∀x∈xs,AV.aM [] x=true
 valid:Uk r
 iV:∀d∈S,fO d.1
theorem RS.next{a b}{o}{xs}{S}(h:RS (a++o::b) xs S):RS (a++b) (dlY xs (a++o::b).length a.length) (EN S o) where
 rd:=aaP h.rd h.len
 len:=by rw[UH h.len zS];have:=h.len;grind
 Km:=by rw[UH h.len zS];exact h.Km
 iw:=Eo h.iw _ _
 valid:=fun x hx=>h.valid x (by
  rcases yI.1 hx with hx|hx
  .exact y07 _ hx
  grind)
 iV:=Fb h.iV (h.valid o zS).1.iV.1
theorem aeY{r}{xs}{S}(h:RS r xs S)g{ex}{s'}m(hm:m<=r.length)(xY:∀i x,i<m->r[i]?=some x->met S x=false)(YX:Rq 0 16 1 (rC0 xs g r.length S m) ex s'):∀n i,m-i=n->i<=m->Rq 0 16 1 (rC0 xs g r.length S i) ex s':=by
 intro n
 induction n with
 |zero=>grind
 |succ n ih =>
  intro i hn hi;have bg:i<r.length:=zO
  have hv:=h.valid r[i] (y03 _);have hl:=UG r[i] S hv.2 h.iV hv.1.Z5.cx;rw[xY i r[i] zO (yA bg)]at hl;exact alE xs g r.length i S r[i] (by have:=h.len;have:=h.Km;omega) h.iw zO (NI h.rd bg) hl _ _ (ih (i+1) zO zO)
theorem aeZ{r}{xs}{S}(h:RS r xs S)(g g2:Nat)v(hv1:v.length<=1000000){ex}{s'}m(hm:m<=r.length)(xY:∀i x,i<m->r[i]?=some x->met S x=false)(YX:Rq 0 16 1 (rC1 xs g r.length S g2 v m) ex s'):∀n i,m-i=n->i<=m->Rq 0 16 1 (rC1 xs g r.length S g2 v i) ex s':=by
 intro n
 induction n with
 |zero=>grind
 |succ n ih =>
  intro i hn hi;have bg:i<r.length:=zO
  have hv:=h.valid r[i] (y03 _);have hl:=UG r[i] S hv.2 h.iV hv.1.Z5.cx;rw[xY i r[i] zO (yA bg)]at hl;exact alG xs g r.length i S g2 v hv1 r[i] (by have:=h.len;have:=h.Km;omega) h.iw zO (NI h.rd bg) hl _ _ (ih (i+1) zO zO)
theorem ae0{a b}{o:OP}:(a++o::b)[a.length]'zS=o:=zS
theorem ae1{p:OP->Bool}{a b}{o}(h:∀x∈a,p x=false):∀i x,i<a.length->(a++o::b)[i]?=some x->p x=false:=fun i x hi hx=>by
 rw[getElem?_append_left hi]at hx;grind
theorem alO{a b}{o}{xs}{S}(h:RS (a++o::b) xs S)g(xY:∀x∈a,met S x=false)(hm:met S o=true) :
 Rq 0 16 1 (rC0 xs g (a++o::b).length S 0) (.exit 1) (rS1 (dlY xs (a++o::b).length a.length) (g+1) (a++b).length (EN S o) 0 [o]):=by
 have hv:=h.valid o zS;have hl:=UG o S hv.2 h.iV hv.1.Z5.cx;rw[hm]at hl;have hD:=Pq xs g (a++o::b).length a.length h.Km h.len zS h.iw;rw[show(a++o::b).length-1=(a++b).length by simp]at hD;have hg:=NI h.rd (i:=a.length) zS;rw[ae0]at hg;exact aeY h g a.length zS (ae1 xY) (alF xs _ g _ _ a.length S _ o (by have:=h.len;have:=h.Km;omega) (Eo h.iw _ _) h.iw (by simp;omega) hg hl (SE h.iV hv.1.iV.1 _) hD yO) _ 0 rfl yN
theorem alP{a b}{o}{xs}{S}(h:RS (a++o::b) xs S)(g g2:Nat)v(hv1:v.length<=1000000)(xY:∀x∈a,met S x=false)(hm:met S o=true) :
 Rq 0 16 1 (rC1 xs g (a++o::b).length S g2 v 0) (.exit 1) (rS1 (dlY xs (a++o::b).length a.length) (g+1) (a++b).length (EN S o) (g2+1) (v++[o])):=by
 have hv:=h.valid o zS;have hl:=UG o S hv.2 h.iV hv.1.Z5.cx;rw[hm]at hl;have hD:=Pq xs g (a++o::b).length a.length h.Km h.len zS h.iw;rw[show(a++o::b).length-1=(a++b).length by simp]at hD;have hg:=NI h.rd (i:=a.length) zS;rw[ae0]at hg;exact aeZ h g g2 v hv1 a.length zS (ae1 xY) (alH xs _ g _ _ a.length S _ g2 v hv1 o (by have:=h.len;have:=h.Km;omega) (Eo h.iw _ _) h.iw (by simp;omega) hg hl (SE h.iV hv.1.iV.1 _) hD ⟨.of_eq (by show AV.aU _ _ _ _=AV.aU _ _ _ _;simp),by rw[tQ];rfl⟩) _ 0 rfl yN
theorem Wy:∀ N{r}{xs}{S}(_:RS r xs S)(g g2:Nat)v,r.length<=N->v.length+N<=1000000 ->
 ∃r9 g3 S' g4,(∀x∈r9,AV.aM [] x=true)/\Rq 0 16 0 (rS1 xs g r.length S g2 v) .ret (rX1 r9 g3 S' g4 (v++qG met EN N S r)):=by
 intro N
 induction N with
 |zero =>
  intro r xs S h g g2 v hr hv;obtain rfl:r=[]:=y02 zO;refine⟨xs,g,S,g2,h.iw,?_⟩;show bN _ _ _ _ _ _ _ (rX1 xs g S g2 (v++[]));rw[y23];exact aeX xs g 0 g2 S v zO h.iw (aeV xs g 0 0 S g2 v zO zO h.iw zO _ _ ⟨rfl,rfl⟩) trivial
 |succ N ih =>
  intro r xs S h g g2 v hr hv;have hw:r.length<=1000000:=by grind
  unfold qG;cases e:pick (met S) r with
  |none =>
   have xY:=wF e;refine⟨xs,g,S,g2,h.iw,?_⟩;rw[y23];exact aeX xs g _ g2 S v hw h.iw (aeZ h g g2 v zO r.length yM (fun i x hi hx=>xY x (mem_of_getElem? hx)) (aeV xs g _ _ S g2 v zO hw h.iw zO _ _ ⟨rfl,rfl⟩) _ 0 rfl yN) trivial
  |some q =>
   obtain⟨o,r'⟩:=q;obtain⟨a,b,rfl,rfl,h3,h4⟩:=nM e;obtain⟨r9,g3,S',g4,k1,k2⟩:=ih h.next (g+1) (g2+1) (v++[o]) (by simp at hr |-;omega) (by simp;omega);refine⟨r9,g3,S',g4,k1,?_⟩;simp only[y16,nil_append]at k2;exact alJ xs _ g _ _ g2 S _ v o hw h.iw (Eo h.iw _ _) (alP h g g2 v zO h3 h4) _ _ k2
theorem Wz N{r}{xs}{S}(h:RS r xs S)g(hr:r.length<=N)(hN:N<=900000) :
 (qG met EN N S r=[]/\Rq 0 16 0 (rS0 xs g r.length S) .ret (rX0 xs g S)) \/
 ∃r9 g3 S' g4,(∀x∈r9,AV.aM [] x=true)/\Rq 0 16 0 (rS0 xs g r.length S) .ret (rX1 r9 g3 S' g4 (qG met EN N S r))/\qG met EN N S r≠[]:=by
 have hw:r.length<=1000000:=by omega
 cases N with
 |zero =>
  obtain rfl:r=[]:=y02 zO;exact .inl ⟨rfl,aeW xs g 0 S zO h.iw (aeU xs g 0 0 S zO h.iw zO _ _ ⟨rfl,rfl⟩) yO⟩
 |succ N =>
  unfold qG;cases e:pick (met S) r with
  |none =>
   have xY:=wF e;exact .inl ⟨rfl,aeW xs g _ S hw h.iw (aeY h g r.length yM (fun i x hi hx=>xY x (mem_of_getElem? hx)) (aeU xs g _ _ S hw h.iw zO _ _ ⟨rfl,rfl⟩) _ 0 rfl yN) yO⟩
  |some q =>
   obtain⟨o,r'⟩:=q;obtain⟨a,b,rfl,rfl,h3,h4⟩:=nM e;obtain⟨r9,g3,S',g4,k1,k2⟩:=Wy N h.next (g+1) 0 [o] (by simp at hr |-;omega) (by simp;omega);exact .inr ⟨r9,g3,S',g4,k1,alI xs _ g _ _ S _ o hw h.iw (Eo h.iw _ _) (alO h g h3 h4) _ _ k2,zS⟩
end Go.Mg
namespace Go.Mg
open Go Go.Am Go.Proofs Go.eY Go.bH Go.yU Go.bV
def rX(l:List OP)(o:OP)(k:Nat):St:={ aL:=aC 77 [(0,dQ l),(3,.ptr 0 0),(4,aK),(5,AV.sl 17 true []),(6,Am.bool false),(7,int k)],H:=[.box (jy o)] }
end Go.Mg
namespace Go.Am
open Go
section
variable {P:Program} {G:Nat->Option (List AV)}
theorem ak.Mq{f}{args}{H H' H1}{x y}{z}{ps}(h:ak P G f args H (.ret x) H')(ha:mR H' x z=some (y,H1,ps))(dG:gZ ps):ak P G f args H (.ret y) H1 :=
 fun V vs hH hG hr=>(h V vs hH hG hr).mono fun e w' he=>by
  obtain⟨V',rfl,k2,k3,k4,k5⟩:=he;cases e with
  |returned v =>
   obtain⟨V1,l1,l2,l3,l4,l5⟩:=sG (by rw[k4];exact ha) dG k3 k5;exact⟨V1,l1,k2.trans l3,l4,l2,l5⟩
  |panicked _=>exact k5.elim
  |outgrown=>exact k5.elim
theorem ak.BM{f}{args}{H H' H3}{x}{qs}(h:ak P G f args H (.ret x) H')(hc:Vu H.length x H'=some (H3,qs))(hq:gZ qs):ak P G f args H (.ret x) H3 :=
 fun V vs hH hG hr=>(h V vs hH hG hr).mono fun e w' he=>by
  obtain⟨V',rfl,k2,k3,k4,k5⟩:=he;cases e with
  |returned v =>
   obtain⟨V3,n1,n2,n3,n4,n5⟩:=pJ  (by rw[k4];exact hc) hq (by rw[hH]) k2 k3 k5;exact⟨V3,n1,n2,n3,n4,n5⟩
  |panicked _=>exact k5.elim
  |outgrown=>exact k5.elim
end
end Go.Am
namespace Go.Mg
open Go Go.Am Go.Proofs Go.eY Go.bH Go.yU Go.bV
theorem Ql:∀ l(o:OP),(Jy l o).length<=l.length+1
 |[],_=>yM
 |x::l,o=>by
  unfold Jy;have:=Ql l o;grind
theorem aaQ l(o:OP):(adr l o).length<=l.length+1:=by
 unfold adr;split
 .omega
 .exact Ql l o
def pU(v:List D)(u:List OP)(x y:AV)(i:Nat):List AV:=aC 36 [(1,bB v),(4,x),(5,y),(6,int 0),(15,dQ u),(16,int u.length),(17,int i)]
def pX(x y:AV):List AV:=aC 36 [(4,x),(5,y)]
theorem ak2(v:List D)u(hv:v.length<=1000000000)(hu:u.length<=1000000)(i:Nat)o(hi:(i:Int)<u.length)(hx:u[i]?=some o)(hC:Cq 28 [bB v,eG (o.dv,o.sq)] (Am.bool false))ex(s':St)(h:Rq 0 22 0 (sM 36 [(1,bB v),(4,aK),(5,.aU 1 0 0 (length [o])),(6,int 0),(15,dQ u),(16,int ↑u.length),(17,int ↑(i+1))] [.box (jy o),.aN 0 17 false (dZ [o])]) ex s'):Rq 0 22 0 (St.mk (pU v u aK aK i) [] []) ex s':=by
 exact aJ [ki ((i:Int)<u.length),ke (jy o) (dZ u) i (bG hx),kc [] hC,kY,Qx (jy o),vV 176,kW 33 (i+1) ↑(i+1)] (aB 36 [1,4,5,6,15,16,17]) 2 h
theorem ak1(v:List D)u(hv:v.length<=1000000000)(hu:u.length<=1000000)(i:Nat)(gb:Nat)b(hb:b.length<=1000000)o(hi:i<(u.length:Int))(hx:u[i]?=some o)(hC:Cq 28 [bB v,eG (o.dv,o.sq)] (Am.bool false))(ex:bF)s'(h:Rq 0 22 0 (sM 36 [(1,bB v),(4,aK),(5,.aU 1 (gb+1) 0 (length b+1)),(6,int 0),(15,dQ u),(16,int ↑u.length),(17,int ↑(i+1))] [.aH,.aN (gb+1) 17 false (dZ b++dZ [o])]) ex s'):Rq 0 22 0 (St.mk (pU v u aK (AV.aU 1 gb 0 b.length) i) [ah.aH,ah.aN gb 17 false (dZ b)] []) ex s':=by
 exact aJ [ki ((i:Int)<u.length),ke (jy o) (dZ u) i (bG hx),kc [] hC,kY,kq gb,kp (aW b).symm,vV ((length b+1)*176),kW 33 (i+1) ↑(i+1),kp (show ∀(x:List AV),x∈dZ b++[[int o.dv,int o.sq,int o.tm,AV.sl 2 false (au o.cx),int o.pk,str o.pn,int o.kd,int o.f1,int o.f2,int o.f3,int o.t1,int o.t2,int o.t3,str o.ky,str o.vl,int o.n,Am.bool o.on]]->AV.aM [] x=true from(by exact(Am.dx (iY _) (Am.dM rfl Am.eU))))] (aB 36 [1,4,5,6,15,16,17]) 2 h
theorem ak0(v:List D)u(hv:v.length<=1000000000)(hu:u.length<=1000000)(i:Nat)(gb:Nat)b(hb:b.length<=1000000)(hi:¬(i:Int)<u.length)(h:True):Rq 0 22 0 (St.mk (pU v u aK (AV.aU 1 gb 0 b.length) i) [ah.aH,ah.aN gb 17 false (dZ b)] []) (bF.exit 0) (St.mk (pX aK (AV.aU 1 gb 0 b.length)) [ah.aH,ah.aN gb 17 false (dZ b)] []):=by
 exact aG [kj ((i:Int)<u.length)] (aB 36 [4,5]) 2
theorem ak3 l(v:List D)u(gb:Nat)b(hb:b.length<=1000000)(hK:Cq 46 [bB v] (int 0))(hU:Cq 14 [dQ l,aK] (dQ u))(hL:Rq 0 22 0 { aL:=pU v u aK aK 0,H:=[] } (.exit 0) { aL:=pX aK (.aU 1 gb 0 b.length),H:=[.aH,.aN gb 17 false (dZ b)] })(out:aS)H'(h:(aS.ret (AV.bq [aK,AV.aU 1 gb 0 b.length,int 0])=out)/\([ah.aH,ah.aN gb 17 false (dZ b)]=H')):ak P G 22 [dQ l,bB v] [] out H':=by
 obtain⟨e1,eH⟩:=h;exact ak.heap (e1▸((aj [kc [] hK,kY,kc [] hU,kN 16 (aW u),kl (rG [(0,1),(2,2),(7,8),(18,18)]) 0 hL]))) eH
theorem ak5(l:List OP)v(e:Int)(he:e≠0)(hK:Cq 46 [bB v] (int e))(h:True):Cq 22 [dQ l,bB v] (.bq [aK,aK,int e]):=by
 exact aj [kc [] hK,kt (y32 (qF zO))]
end Go.Mg
namespace Go.Am
open Go
theorem ak.adA{P}{G}{f}{W}{out}{H'}(hp:∀e∈W,∀(V:View)v,dI V e.2 v->dR V.w V.M e.2 v)(hc:ak P G f [.md true W] [] out H'):ak P G f [.mp 0] [.map W] (out.jv (upto [] 1)) (.aH::H'.map (ah.jv (upto [] 1))):=by
 intro V vs hH hG hr;obtain⟨v,rfl⟩:∃v,vs=[v]:=by
  have:=hr.1
  match vs,this with
  |[v],_=>exact⟨v,rfl⟩
 obtain⟨V1,k1,k2,k3,k4,k5⟩:=xI (by rw[hH];rfl) hp hG hr.head;have hx:bR V1 [.md true W] [v]:=.cons k5 .nil;have vN:AV.aM [] [AV.md true W]=true:=rfl;have r:=iX (NZ []) [AV.md true W] vN;have:=ak.frame hc k4  nodup_nil zS rfl (fun i o ho=>by simp at ho) (fun i o ho=>by simp at ho) hx r.1.symm (r.2 _);rw[k2,k1,hH]at this;exact this.mono fun e w' ⟨V2,a1,a2,a3,a4,a5⟩=>⟨V2,a1,k3.trans a2,a3,a4,a5⟩
end Go.Am
namespace Go.Mg
open Go Go.Am Go.Proofs Go.eY Go.bH Go.yU Go.bV
theorem adB(l:List OP)σ:(dZ l).map (AV.kH σ)=dZ l :=
 (map_congr_left fun x hx=>(iX σ x (iY l x hx)).1).trans (map_id _)
theorem aaR l(hl:l.length<=1000000)(hg:rZ l):ak P G 35 [.mp 0] [.map ((known [] l).map en)] (.ret (if kK l=[]then aK else .aU 8 ((kK l).length-1) 0 (kK l).length)) (if kK l=[]then[.aH]else[.aH,.aH,.aH,.aH,.aH,.aH,.aH,.aH,.aN ((kK l).length-1) 17 false (dZ (kK l))]):=by
 have h:=ak.adA (GU _) (SA l hl hg);cases e:kK l with
 |nil =>
  rw[e]at h;exact h
 |cons o v =>
  rw[e]at h;have e2:(oH (o::v)).map (ah.jv (upto [] 1))=[.aH,.aH,.aH,.aH,.aH,.aH,.aH,.aN v.length 17 false ((dZ (o::v)).map (AV.kH (upto [] 1)))]:=rfl;rw[e2,adB]at h;exact h
theorem JE:∀ l m,(Jz m l).length<=m.length+l.length
 |[],m=>yM
 |o::l,m=>by
  have h1:=JE l (Sz m o);have h2:(Sz m o).length<=m.length+1:=by grind[Sz,aaQ]
  show(Jz (Sz m o) l).length<=_;grind
theorem GV l:(kK l).length<=l.length:=by
 have:=JE l [];simpa[kK]using this
theorem uX{m}{pt}:∀{n}{W}{l},(qG m pt n W l).length<=n
 |0,_,_=>yM
 |n+1,W,l=>by
  unfold qG;split
  .simp
  .simp only[yE];have:=uX (m:=m) (pt:=pt) (n:=n) (W:=pt W ‹_›) (l:=‹_›);omega
theorem ahv{l}(h:rZ l):Uk (kK l):=fun o ho=>⟨EM h o ho,AQ h o ho⟩
theorem GX l(hl:l.length<=400000)(hg:rZ l):Cq 16 [dQ l] (SB (GR (kK l))):=by
 have hk:=Au [l] zS (fun x hx=>by rw[mem_singleton.1 hx];grind) wG;rw[show[l].flatten=l by simp]at hk;have hs:=aaR l zO hg;have bL:=GV l;by_cases hu:kK l=[]
 .rw [yL hu,yL hu]at hs;rw[hu];exact apx l _ hk hs (Aa _) trivial
 .rw [yK hu,yK hu]at hs;have hRS:RS (kK l) (dZ (kK l)) []:=⟨y27 (by rw[aW];simp),by rw[aW];simp,by rw[aW];omega,iY _,ahv hg,nofun⟩;rcases Wz (kK l).length hRS ((kK l).length-1) yM zO with⟨e,h⟩|⟨r9,g3,S',g4,k1,h,fF⟩
  .rw [show GR (kK l)=[]from e];exact apv l (kK l) _ _ _ _ _ zO (iY _) hk hs (Aa _) h trivial
  .have hr:(GR (kK l)).length<=(kK l).length:=uX;rw[SB,yK (show GR (kK l)≠[]from fF)];have h:Rq 0 16 0 (rS0 (dZ (kK l)) ((kK l).length-1) (kK l).length []) .ret (rX1 r9 g3 S' g4 (GR (kK l))):=h;generalize GR (kK l)=v at *;have h9:=apw l (kK l) _ _ r9 g3 S' g4 v zO zO k1 hk hs (Aa _) _ _ h ⟨rfl,rfl⟩;exact(h9.Mq     rfl ⟨rfl,by rw[drop_zero,y27 (by rw[aW];simp)],aW _,jd _,yO⟩).BM   rfl trivial
end Go.Mg
namespace Go.Proofs
open Go.Shelf Go.RowKit Go.Lib Go.Sort
def Tryz.Li:Go.Shelf.Ren:=⟨fun|7=>44|10=>75|n=>n,fun|23=>69|26=>3|3=>3|28=>78|0=>0|27=>77|33=>121|4=>4|n=>n,fun|n=>n⟩
theorem Tryz.alQ:Go.Proofs.SlLaysZI.n7 Tryz.prog Tryz.Li where
 mixed:=zQ
 f7:=⟨"maps.Keys[map[int]int,int,int]",zD,Tryz.func44.trans (yJ some zQ)⟩
 f10:=⟨"maps.Keys[map[int]int,int,int]$1",zD,Tryz.func75.trans (yJ some zQ)⟩
 t0:=Tryz.underlying0
 a0:=Tryz.isAgg0
 z0:=Tryz.sizeOf0
 v0:=Tryz.zeroValue0
 t4:=Tryz.underlying4
 a4:=Tryz.isAgg4
 z4:=Tryz.sizeOf4
 v4:=Tryz.zeroValue4
 t23:=Tryz.underlying69
 a23:=Tryz.isAgg69
 z23:=Tryz.sizeOf69
 v23:=Tryz.zeroValue69
 t26:=Tryz.underlying3
 a26:=Tryz.isAgg3
 z26:=Tryz.sizeOf3
 v26:=Tryz.zeroValue3
 t27:=Tryz.underlying77
 a27:=Tryz.isAgg77
 z27:=Tryz.sizeOf77
 v27:=Tryz.zeroValue77
 t28:=Tryz.underlying78
 a28:=Tryz.isAgg78
 z28:=Tryz.sizeOf78
 v28:=Tryz.zeroValue78
 t33:=Tryz.underlying121
 a33:=Tryz.isAgg121
 z33:=Tryz.sizeOf121
 v33:=Tryz.zeroValue121
def Tryz.FV:Go.Shelf.Ren:=⟨fun|6=>43|8=>73|9=>74|11=>102|13=>104|12=>103|23=>142|24=>143|14=>133|15=>134|16=>135|17=>136|18=>137|19=>138|20=>139|21=>140|22=>141|25=>177|26=>178|27=>179|28=>180|29=>181|30=>118|31=>208|n=>n,fun|26=>3|28=>78|24=>75|0=>0|3=>3|37=>37|48=>197|50=>199|4=>4|40=>190|39=>189|45=>95|5=>5|9=>9|51=>228|55=>232|57=>259|58=>260|33=>121|n=>n,fun|n=>n⟩
theorem Tryz.adC:Go.Proofs.SlLaysZI.n6 Tryz.prog Tryz.FV where
 mixed:=zQ
 f6:=⟨"slices.Sorted[int]",zD,Tryz.func43.trans (yJ some zQ)⟩
 f8:=⟨"slices.Collect[int]",zD,Tryz.func73.trans (yJ some zQ)⟩
 f11:=⟨"slices.AppendSeq[[]int,int]",zD,Tryz.func102.trans (yJ some zQ)⟩
 t0:=Tryz.underlying0
 a0:=Tryz.isAgg0
 z0:=Tryz.sizeOf0
 v0:=Tryz.zeroValue0
 t24:=Tryz.underlying75
 a24:=Tryz.isAgg75
 z24:=Tryz.sizeOf75
 v24:=Tryz.zeroValue75
 t26:=Tryz.underlying3
 a26:=Tryz.isAgg3
 z26:=Tryz.sizeOf3
 v26:=Tryz.zeroValue3
 t28:=Tryz.underlying78
 a28:=Tryz.isAgg78
 z28:=Tryz.sizeOf78
 v28:=Tryz.zeroValue78
 i26:=zQ
def Tryz.WA:Go.Shelf.Ren:=⟨fun|5=>74|8=>104|7=>103|19=>142|20=>143|10=>133|11=>134|12=>135|13=>136|14=>137|15=>138|16=>139|17=>140|18=>141|30=>177|31=>178|32=>179|33=>180|34=>181|35=>118|40=>208|n=>n,fun|23=>75|25=>3|3=>3|32=>37|22=>75|0=>0|44=>197|46=>199|4=>4|36=>190|35=>189|41=>95|5=>5|9=>9|53=>228|57=>232|63=>259|64=>260|n=>n,fun|n=>n⟩
theorem Tryz.ae2:Go.Proofs.SlLaysM.n5 Tryz.prog Tryz.WA where
 mixed:=zQ
 f5:=⟨"slices.Sort[[]int,int]",zD,Tryz.func74.trans (yJ some zQ)⟩
 f7:=⟨"slices.pdqsortOrdered[int]",zD,Tryz.func103.trans (yJ some zQ)⟩
 f8:=Tryz.func104.trans (yJ some zQ)
 f10:=⟨"slices.insertionSortOrdered[int]",zD,Tryz.func133.trans (yJ some zQ)⟩
 f11:=⟨"slices.heapSortOrdered[int]",zD,Tryz.func134.trans (yJ some zQ)⟩
 f12:=⟨"slices.breakPatternsOrdered[int]",zD,Tryz.func135.trans (yJ some zQ)⟩
 f13:=⟨"slices.choosePivotOrdered[int]",zD,Tryz.func136.trans (yJ some zQ)⟩
 f14:=⟨"slices.reverseRangeOrdered[int]",zD,Tryz.func137.trans (yJ some zQ)⟩
 f15:=⟨"slices.partialInsertionSortOrdered[int]",zD,Tryz.func138.trans (yJ some zQ)⟩
 f16:=⟨"cmp.Less[int]",zD,Tryz.func139.trans (yJ some zQ)⟩
 f17:=⟨"slices.partitionEqualOrdered[int]",zD,Tryz.func140.trans (yJ some zQ)⟩
 f18:=⟨"slices.partitionOrdered[int]",zD,Tryz.func141.trans (yJ some zQ)⟩
 f19:=Tryz.func142.trans (yJ some zQ)
 f20:=Tryz.func143.trans (yJ some zQ)
 f30:=⟨"slices.siftDownOrdered[int]",zD,Tryz.func177.trans (yJ some zQ)⟩
 f31:=Tryz.func178.trans (yJ some zQ)
 f32:=Tryz.func179.trans (yJ some zQ)
 f33:=⟨"slices.medianAdjacentOrdered[int]",zD,Tryz.func180.trans (yJ some zQ)⟩
 f34:=⟨"slices.medianOrdered[int]",zD,Tryz.func181.trans (yJ some zQ)⟩
 f35:=⟨"cmp.isNaN[int]",zD,Tryz.func118.trans (yJ some zQ)⟩
 f40:=⟨"slices.order2Ordered[int]",zD,Tryz.func208.trans (yJ some zQ)⟩
 t0:=Tryz.underlying0
 a0:=Tryz.isAgg0
 z0:=Tryz.sizeOf0
 v0:=Tryz.zeroValue0
 t3:=Tryz.underlying3
 a3:=Tryz.isAgg3
 z3:=Tryz.sizeOf3
 v3:=Tryz.zeroValue3
 t4:=Tryz.underlying4
 a4:=Tryz.isAgg4
 z4:=Tryz.sizeOf4
 v4:=Tryz.zeroValue4
 t5:=Tryz.underlying5
 a5:=Tryz.isAgg5
 z5:=Tryz.sizeOf5
 v5:=Tryz.zeroValue5
 t9:=Tryz.underlying9
 a9:=Tryz.isAgg9
 z9:=Tryz.sizeOf9
 v9:=Tryz.zeroValue9
 t22:=Tryz.underlying75
 a22:=Tryz.isAgg75
 z22:=Tryz.sizeOf75
 v22:=Tryz.zeroValue75
 t23:=Tryz.underlying75
 a23:=Tryz.isAgg75
 z23:=Tryz.sizeOf75
 v23:=Tryz.zeroValue75
 t25:=Tryz.underlying3
 a25:=Tryz.isAgg3
 z25:=Tryz.sizeOf3
 v25:=Tryz.zeroValue3
 t32:=Tryz.underlying37
 a32:=Tryz.isAgg37
 z32:=Tryz.sizeOf37
 v32:=Tryz.zeroValue37
 t35:=Tryz.underlying189
 a35:=Tryz.isAgg189
 z35:=Tryz.sizeOf189
 v35:=Tryz.zeroValue189
 t36:=Tryz.underlying190
 a36:=Tryz.isAgg190
 z36:=Tryz.sizeOf190
 v36:=Tryz.zeroValue190
 t41:=Tryz.underlying95
 a41:=Tryz.isAgg95
 z41:=Tryz.sizeOf95
 v41:=Tryz.zeroValue95
 t44:=Tryz.underlying197
 a44:=Tryz.isAgg197
 z44:=Tryz.sizeOf197
 v44:=Tryz.zeroValue197
 t46:=Tryz.underlying199
 a46:=Tryz.isAgg199
 z46:=Tryz.sizeOf199
 v46:=Tryz.zeroValue199
 t53:=Tryz.underlying228
 a53:=Tryz.isAgg228
 z53:=Tryz.sizeOf228
 v53:=Tryz.zeroValue228
 t57:=Tryz.underlying232
 a57:=Tryz.isAgg232
 z57:=Tryz.sizeOf232
 v57:=Tryz.zeroValue232
 t63:=Tryz.underlying259
 a63:=Tryz.isAgg259
 z63:=Tryz.sizeOf259
 v63:=Tryz.zeroValue259
 t64:=Tryz.underlying260
 a64:=Tryz.isAgg260
 z64:=Tryz.sizeOf260
 v64:=Tryz.zeroValue260
end Go.Proofs
namespace Go.Mg
open Go Go.Am Go.Proofs Go.eY Go.bH Go.yU Go.bV
def jN:ah:=.iV .ready none (aC 70 [(4,.ptr 2 0)]) #[25] (KP P 19 0) (uT P 19 0)
def nH(o:OP)(S:List D):List ah:=[jN,.box (jy o),.box [.mp 3],.map (jE S)]
theorem apz(o:OP)S S'(a b v:Int)f(hG:bT P 3 (jE S) (.int .i64 a) (int 0) (int v) f)(hP:jm P 3 (jE S) (.int .i64 a) (int (if b>v then b else v)) (jE S'))(h:True):dY P G 0 [eG (a,b)] (nH o S) true (nH o S'):=by
 exact jI (fun _=>[ko (bC.lJ (int v) f),ko (bC.wT (jE S')),kp hG,kp hP,kp (show ∀ e,e∈jE S'->AV.bP (length (nH o S)) e.2=true from(oG _ _))]) (fun _=>zQ)
theorem apA(o:OP)S S'(a b v:Int)f(hG:bT P 3 (jE S) (.int .i64 a) (int 0) (int v) f)(hP:jm P 3 (jE S) (.int .i64 a) (int (if b>v then b else v)) (jE S'))(h:True):dY P G 0 [eG (a,b)] (nH o S++[ah.box [int a,int b]]) true (nH o S'++[ah.box [int a,int b]]):=by
 exact jI (fun _=>[ko (bC.lJ (int v) f),ko (bC.wT (jE S')),kp hG,kp hP,kp (show ∀ e,e∈jE S'->AV.bP (length (nH o S++[ah.box [int a,int b]])) e.2=true from(oG _ _))]) (fun _=>zQ)
theorem apB(o:OP)S S'(k:Nat)a b(hl:o.cx.length<=1000000000)(hk:(k:Int)<o.cx.length)(hx:o.cx[k]?=some (a,b))(hY:dY P G 0 [eG (a,b)] (nH o S++[.box [int a,int b]]) true (nH o S'++[.box [int a,int b]]))(ex:bF)s'(h:Rq 4 71 0 (sM 31 [(0,.yl 0),(1,.ptr 1 0),(6,bB o.cx),(7,int ↑(length o.cx)),(8,int ↑(k+1))] [jN,.box (jy o),.box [.mp 3],.map (jE S')]) ex s'):Rq 4 71 0 (Dz o (nH o S) k) ex s':=by
 exact aJ [ki ((k:Int)<(↑(length o.cx):Int)),ko (bC.elem (bH.aQ (a,b))),ko (bC.call [] (aS.ret (Am.bool true)) (nH o S'++[ah.box [int a,int b]])),kp (show(0:Int)<=(k:Int)/\(au o.cx)[Int.toNat (k:Int)]?=some (bH.aQ (a,b))from(bG hx)),kp hY,kY,kW 16 (k+1) ↑(k+1),kp (show ∀(e:Value×AV),e∈jE S'->AV.bP 4 e.2=true from(oG _ _))] (aB 31 [0,1,6,7,8]) 4 h
theorem apC(o:OP)S(k:Nat)(hl:o.cx.length<=1000000000)(hk:¬(k:Int)<o.cx.length)(h:True):Rq 4 71 0 (Dz o (nH o S) k) (bF.exit 0) (St.mk (aC 31 [(0,AV.yl 0),(1,AV.ptr 1 0)]) (nH o S) []):=by
 exact aG [kj ((k:Int)<↑(length o.cx))] (aB 31 [0,1]) 4
theorem apD(o:OP)S S'(hl:o.cx.length<=1000000000)(hs:¬1<o.sq)(hL:Rq 4 71 0 (Dz o (nH o S) 0) (.exit 0) { aL:=aC 31 [(0,.yl 0),(1,.ptr 1 0)],H:=nH o S' })(h:True):ak P G 71 [.yl 0,.ptr 1 0] (nH o S) (aS.ret (AV.bq [])) (nH o S'):=by
 exact aj [kN 7 (Go.bH.ay o.cx),kl (rG [(2,4),(9,22)]) 4 hL,kj (o.sq>1)]
theorem apE(o:OP)S S' S2(hl:o.cx.length<=1000000000)(hs:1<o.sq)(hq:o.sq<=1048576)(hY:dY P G 0 [eG (o.dv,o.sq-1)] (nH o S') true (nH o S2))(hL:Rq 4 71 0 (Dz o (nH o S) 0) (.exit 0) { aL:=aC 31 [(0,.yl 0),(1,.ptr 1 0)],H:=nH o S' })(h:True):ak P G 71 [.yl 0,.ptr 1 0] (nH o S) (aS.ret (AV.bq [])) (nH o S2):=by
 exact aj [kN 7 (Go.bH.ay o.cx),kl (rG [(2,4),(9,22)]) 4 hL,ki (o.sq>1),kW 28 (o.sq-1) (o.sq-1),ko (bC.call [] (aS.ret (Am.bool true)) (nH o S2)),kp hY]
def c19:Code:=vg P 19 0
def UJ:Array Oper:=Bj (Code.hd c19)
def adD(i:Nat):Oper:=UJ.toList.getD i default
def mX(W N:List (Value×AV)):St:={ aL:=aC 70 [(2,aK),(3,.md true W),(4,.ptr 1 0)],H:=[.aH,.box [.md true N]],dh:=[.nK 1] }
def mB0(N:List (Value×AV)):List ah:=[.aH,.box [.md true N],.aH]
def mB1(N:List (Value×AV))(g:Nat)(v:List D):List ah:=[.aH,.box [.md true N],.aH,.aH,.aN g 2 false (au v)]
def mE(x:AV)(W:List (Value×AV))(ks:List Int)(i:Nat):List AV:=aC 70 [(2,x),(3,.md true W),(4,.ptr 1 0),(38,.sl 1 false (ql ks)),(39,int ks.length),(40,int i)]
def mI(x:AV)(W:List (Value×AV))(ks:List Int)(i p:Nat)(d:Int):List AV:=aC 70 [(2,x),(3,.md true W),(4,.ptr 1 0),(9,int d),(10,.ptr p 0),(38,.sl 1 false (ql ks)),(39,int ks.length),(40,int i)]
theorem agL W N(ks:List Int)i(d sq:Int)(hk:ks.length<=1000000)(hq:sq<=100000000)(hq0:0<=sq)(hG:bT P 49 W (.agg #[.int .i64 d,.int .i64 sq]) (.lit Qm) (.lit Qm) false)(h:True):Rq 0 19 2 (St.mk (mI aK W ks i 3 d) (mB0 N++[ah.box [int d,int sq]]) [ig.nK 1]) (bF.exit 6) (St.mk (mI aK W ks i 3 d) (mB0 N++[ah.box [int d,int sq]]) [ig.nK 1]):=by
 exact aG [ko (bC.lJ (AV.lit Qm) false),kp hG,kO] (aB 70 [2,3,4,9,10,38,39,40]) 4
theorem agN(W N:List (Value×AV))(ks:List Int)(i:Nat)(d sq n:Int)(hk:ks.length<=1000000)(hi:(i:Int)<(ks.length:Int))(hx:ks[i]?=some d)(f:Bool)(hG:bT P 3 N (.int .i64 d) (int 0) (int n) f)(hI:Rq 0 19 2 { aL:=mI aK W ks i 3 d,H:=mB0 N++[.box [int d,int 1]],dh:=[.nK 1] } (.exit 6) { aL:=mI aK W ks i 3 d,H:=mB0 N++[.box [int d,int sq]],dh:=[.nK 1] })(hn:sq<=n)(ex:bF)(s':St)(h:Rq 0 19 1 (St.mk (aC 70 [(2,AV.aU 4 0 0 (length [(d,sq)])),(3,AV.md true W),(4,AV.ptr 1 0),(38,AV.sl 1 false (ql ks)),(39,int ↑ks.length),(40,int ↑(i+1))]) [ah.aH,ah.box [AV.md true N],ah.aH,ah.box [int d,int sq],ah.aN 0 2 false (au [(d,sq)])] [ig.nK 1]) ex s'):Rq 0 19 1 (St.mk (mE aK W ks i) (mB0 N) [ig.nK 1]) ex s':=by
 exact aJ [ki ((i:Int)<ks.length),ke (LW d) (ql ks) i (bG hx),kl (rG [(41,5)]) 4 hI,ko (bC.lJ (int n) f),kp hG,ki (sq<=n),Qx [int d,int sq],vV 16,kW 68 (i+1) ↑(i+1)] (aB 70 [2,3,4,38,39,40]) 5 h
theorem agM W N(ks:List Int)(i:Nat)(g:Nat)v(hv:v.length<=1000000)(hk:ks.length<=1000000)(hi:¬i<(ks.length:Int))(ex:bF)s'(h:(bF.exit 4=ex)/\(St.mk (aC 70 [(2,AV.aU 4 g 0 v.length)]) [ah.aH,ah.box [AV.md true N],ah.aH,ah.aH,ah.aN g 2 false (au v)] [ig.nK 1]=s')):Rq 0 19 1 (St.mk (mE (AV.aU 4 g 0 v.length) W ks i) (mB1 N g v) [ig.nK 1]) ex s':=by
 obtain⟨eX,eS⟩:=h;exact bN.to ((aG [kj ((i:Int)<ks.length)] (aB 70 [2]) 5)) eX (eB.of_eq eS)
theorem akZ(l:List OP)W N(ks:List Int)(hk:Cq 36 [.sl 1 true (Nj [l])] (.md true W))(hR:Rq 0 19 0 { aL:=aC 70 [(2,aK),(3,.md true W),(4,.ptr 1 0),(18,.ptr 2 0)],H:=[.map [],.box [.mp 0],.iter none W],dh:=[.nK 1] } (.exit 0) (mX W N))(hK:ak P G 44 [.md true N] [] (.ret (.fn (.func 75) [] [.ptr 0 0])) [.box [.md true N]])(hS:ak P G 43 [.fn (.func 75) [] [.ptr 0 0]] [.box [.md true N]] (.ret (.sl 1 false (ql ks))) [.aH])(g:Nat)v(hL:Rq 0 19 1 { aL:=mE aK W ks 0,H:=mB0 N,dh:=[.nK 1] } (.exit 4) { aL:=aC 70 [(2,.aU 4 g 0 v.length)],H:=mB1 N g v,dh:=[.nK 1] })(out:aS)H'(h:(aS.ret (AV.aU 4 g 0 v.length)=out)/\([ah.aH,ah.box [AV.md true N],ah.aH,ah.aH,ah.aN g 2 false (au v)]=H')):ak P G 19 [dQ l] [] out H':=by
 obtain⟨e1,eH⟩:=h;exact ak.heap (e1▸((aj [kc [] hk,ko (bC.av (AV.bq [AV.ptr 1 0,AV.agg [AV.ptr 1 0]])),kl (rG [(0,2),(5,13),(19,51)]) 3 hR,kc [] hK,kc [2] hS,kN 39 (Go.bH.kD ks),kl [36,37] 3 hL]))) eH
theorem aos N(h:True):ak P G 44 [.md true N] [] (aS.ret (AV.fn (Fn.func 75) [] [AV.ptr 0 0])) [ah.box [AV.md true N]]:=by
 exact aj []
end Go.Mg
namespace Go.Mg
open Go Go.Am Go.Proofs Go.eY Go.Lib Go.Shelf Go.RowKit Go.Sort Go.Maps
theorem ahw m:AnyZI.SortsIn Tryz.prog Tryz.FV Fence.wide m :=
 ⟨fun mo off cap ss W hH Xw iZ=>callsIn_wide.2 (AnyM.slices_Sort_int Tryz.ae2 mo off cap ss W hH Xw iZ),
  fun p cap W=>callsIn_wide.2 (AnyM.slices_Sort_int_none Tryz.ae2 p cap W)⟩
def R0:Value->Option (DataW Nat×List MemPlace):=fun _=>some (.nil,[])
def ahx:Lit->Int
 |.int _ a=>a
 |_=>0
theorem aaS{a}(h:fO a):keyOf P 3 (.int .i64 a)=some (.int .i64 a):=Maps.keyOf_int_mk Tryz.underlying3 h.wf
variable {l:List Int}
theorem adE(hl:∀k∈l,fO k){x}(hx:∃k∈l,x.key = .int .i64 k):∃y,WideElems.rd P 3 R0 x=some y:=by
 obtain⟨k,hk,e⟩:=hx;obtain⟨key,val,born⟩:=x;subst e;exact⟨_,WideElems.rd_mk (aaS (hl k hk))  rfl⟩
theorem aaT{l}(hl:∀k∈l,fO k):∀{ents:List MapEntry},ents.map (·.key)=l.map (Value.int .i64)->(ents.map (WideElems.rg P 3 R0)).map (fun p=>ahx p.1)=l:=by
 induction l with
 |nil=>simp_all
 |cons k t ih =>
  intro ents h;cases ents with
  |nil=>simp at h
  |cons x r =>
   obtain⟨key,val,born⟩:=x;simp only[map_cons,List.cons.injEq]at h;obtain⟨h1,h2⟩:=h;subst h1;have e:=WideElems.rg_of (WideElems.rd_mk  (born:=born) (val:=val) (R:=R0) (aaS (hl k (y06 ..)))  rfl);rw[map_cons,map_cons,e,ih (fun a ha=>hl a (yF _ ha)) h2];rfl
theorem adF{ys ss:List Int}(hp:ys.Perm l)(hs:ys.Pairwise (·<·))(h:ss.Perm l):ss.mergeSort (fun x y=>decide (x<=y))=ys:=by
 have h1:(ss.mergeSort (fun x y=>decide (x<=y))).Perm ys:=(mergeSort_perm ..).trans (h.trans hp.symm);refine h1.eq_of_pairwise (le:=fun a b=>a<=b) (fun a b _ _ k1 k2=>Int.le_antisymm k1 k2) ?_ (hs.imp fun k=>Int.le_of_lt k);have:=pairwise_mergeSort (le:=fun x y:Int=>decide (x<=y)) (fun a b c k1 k2=>by
  rw[decide_eq_true_iff]at *;omega) (fun a b=>by
  rw[Bool.or_eq_true,decide_eq_true_iff,decide_eq_true_iff];grind) ss
 grind
set_option maxHeartbeats 1000000 in
theorem VY(C:List bH.D)(ys:List Int)(hl:∀d∈C,fO d.1)(bL:C.length<=1000000)(hp:ys.Perm (yS C))(hs:ys.Pairwise (·<·)) :
 ak P G 43 [.fn (.func 75) [] [.ptr 0 0]] [.box [.md true (jE C)]] (.ret (.sl 1 false (bH.ql ys))) [.aH]:=by
 intro V vs hH hG hr;obtain⟨v0,rfl⟩:∃v0,vs=[v0]:=by
  have:=hr.1
  match vs,this with
  |[a],_=>exact⟨a,rfl⟩
 obtain⟨us,ws,rfl,hu,hw⟩:=yY hr.head;obtain rfl:us=[]:=y02 hu.1;obtain⟨q,rfl⟩:∃q,ws=[q]:=by
  have:=hw.1
  match ws,this with
  |[a],_=>exact⟨a,rfl⟩
 obtain⟨_,rfl⟩:=jr hw.head;have hHl:V.H.length=1:=by rw[hH];rfl
 have h1:V.H[0]?=some (.box [.md true (jE C)]):=by rw[hH];rfl
 obtain⟨tb,cs,apG,jQ⟩:=hG.eP 0 _ h1;obtain⟨c0,rfl⟩:∃c0,cs=[c0]:=by
  have:=jQ.1
  match cs,this with
  |[a],_=>exact⟨a,rfl⟩
 have hmd:=zM jQ.head;cases hmd with
 |md _ _ uw xS r ents clock hnm kZ Jf wO Ii Uo =>
 obtain⟨apH,apI⟩:=Uo rfl;have apJ:=hG.lt 0 zO;have aqF:=(Array.getElem?_eq_some_iff.1 kZ).1;let l0:List Int:=uw.map fun e=>match e.1 with|.int _ a=>a|_=>0
 have LG:∀e∈uw,∃d∈C,e=(.int .i64 d.1,int d.2):=fun e he=>by
  obtain⟨d,hd,rfl⟩:=yG.1 (xS.mem_iff.1 he);exact⟨d,hd,rfl⟩
 have hk:ents.map (·.key)=l0.map (Value.int .i64):=by grind[map_map,map_congr_left]
 have adG:l0.Perm (yS C):=by
  have:=xS.map (fun e:Value×AV=>match e.1 with|.int _ a=>a|_=>0);have e:(jE C).map (fun e:Value×AV=>match e.1 with|.int _ a=>a|_=>0)=yS C:=by
   unfold jE yS;rw[map_map];exact map_congr_left fun d _=>rfl
  rw[e]at this;exact this
 have EJ:∀k∈l0,fO k:=fun k hk=>by
  obtain⟨d,hd,rfl⟩:=yG.1 (adG.mem_iff.1 hk);exact hl d hd
 have hel:ents.length=C.length:=by
  have h2:=yJ length hk;have h3:=adG.length_eq;simp[yS]at h2 h3;omega
 have zI:∀x∈ents,∃k∈l0,x.key = .int .i64 k:=fun x hx=>by
  have:x.key∈ents.map (·.key):=mem_map_of_mem hx;rw[hk]at this;obtain⟨k,hk1,Oc⟩:=yG.1 this;exact⟨k,hk1,Oc.symm⟩
 have xZ:V.w.ownsMap Tryz.prog 3 R0 r ents.length (.map ((ents.map (WideElems.rg P 3 R0)).foldr DataW.insert [])) :=
  ⟨ents.toArray,clock,kZ,⟨by simp only[size_toArray];unfold maxLen;omega,⟨fun x hx=>apI x (by simpa using hx),apH,by rw[show ents.toArray.toList=ents from rfl,Jf];exact wO⟩,fun x hx=>adE EJ (zI x (by simpa using hx))⟩,zS,zS⟩
 have hD:intKeys (.map ((ents.map (WideElems.rg P 3 R0)).foldr DataW.insert []))=((ents.map (WideElems.rg P 3 R0)).foldr DataW.insert []).map fun p=>ahx p.1:=map_congr_left fun p _=>(by cases p.1<;>rfl);have Je:(intKeys (.map ((ents.map (WideElems.rg P 3 R0)).foldr DataW.insert []))).Perm l0:=by
  rw[hD];have:=(WideShapes.sorted_perm (ents.map (WideElems.rg P 3 R0))).map (fun p=>ahx p.1);rwa[aaT EJ hk]at this
 have Dy:Maps.size (.map ((ents.map (WideElems.rg P 3 R0)).foldr DataW.insert []))=C.length:=by
  rw[Maps.size_eq,(WideShapes.sorted_perm _).length_eq,y13];exact hel
 have apL:SeqGives Fence.wide 2 Tryz.prog 75 #[.pointer (some ⟨V.ρ 0,0,none⟩)] encZ (fun ss=>ss.Perm (intKeys (.map ((ents.map (WideElems.rg P 3 R0)).foldr DataW.insert [])))) (Maps.size (.map ((ents.map (WideElems.rg P 3 R0)).foldr DataW.insert []))) V.w :=
  AnyZI.keys_gives (ρ:=Tryz.Li) { Tryz.alQ with } Fence.wide _ trivial rfl zO (V.ρ 0) r _ _ V.w apJ (by simp[World.cell?,apG]) xZ
 have FZ:=AnyZI.sorted_in Tryz.adC Fence.wide 5 trivial trivial trivial trivial rfl zO (ahw _) (enters_of Tryz.func74 zQ rfl) 75 #[.pointer (some ⟨V.ρ 0,0,none⟩)] trivial (enters_of Tryz.func75 zQ rfl) _ _ (by rw[Dy];unfold maxLen;omega) (by rw[Dy];omega) V.w apL;refine callsIn_wide.2 ((callsIn_wide.1 FZ).drawn.mono fun e w' he=>?_);obtain⟨⟨v,ss,rfl,hss,acD,_,hb⟩,GH⟩:=he;have GH:V.w.drawn<=w'.drawn:=GH.elim (fun h=>by cases h) id;rw[adF (hp.trans adG.symm) hs (hss.trans Je)]at acD;have apM:ss.length=ys.length:=by
  have h1:=(hss.trans Je).length_eq;have h2:=hp.length_eq;have h3:=adG.length_eq;omega
 have fB:Step V { w:=w',M:=fun x=>V.M x/\x<V.w.heap.size,H:=[.aH],ρ:=V.ρ }:={
  os:=hb.os
  tape:=hb.tape
  output:=hb.output
  size:=hb.size
  drawn:=GH
  keep:=fun b bg _=>⟨hb.block b bg,⟨fun h=>h.1,fun h=>⟨h,bg⟩⟩⟩
  data:=fun b bg hn=>⟨hb.block b bg,fun h=>hn h.1⟩
  bL:=by rw[hHl];exact yM
  fresh:=fun id dU=>.inl ⟨by rw[hHl];exact dU,rfl⟩
  eP:=fun id dU=>by
   unfold dL;rw[hH]
   match id,dU with
   |0,_=>exact rfl
   |n+1,dU=>omega }
 refine⟨_,rfl,fB,?_,rfl,?_⟩
 .exact {
   lt:=fun id dU=>by
    have:id<1:=dU;exact y25 (hG.lt id zO) hb.size
   eP:=fun id o ho=>by
    match id,ho with
    |0,ho=>injection ho with ho;subst ho;exact trivial
   inj:=fun i j hi hj e=>hG.inj i j (by have:i<1:=hi;omega) (by have:j<1:=hj;omega) e
   gW:=fun id o ho bA=>by
    match id,ho with
    |0,ho=>injection ho with ho;subst ho;cases bA
   ng:=hG.gD fB }
 .rcases acD.2 with⟨rfl,hz⟩|⟨g,cap,cur,rfl,aqt,hg,aqu,aqv,aqG,apN⟩
  .have:ys=[]:=y02 zO;subst this;exact aF.nil 1 _ _ (.pure _ _ (.lit _))
  .rw [apM];have lT:∀k (hk:k<ys.length),cur[k]?=some (.int .i64 ys[k]):=fun k hk=>by
    have:(cur.toList.take (ss.length*1))[k]?=some (.int .i64 ys[k]):=by
     rw[apN,getElem?_map,yA hk,Option.map_some]
    rw[getElem?_take]at this;split at this
    .simpa using this
    .cases this
   have key:dR w' (fun x=>V.M x/\x<V.w.heap.size) (.sl 1 false (bH.ql ys)) (.slice (some ⟨g,0,none⟩) (bH.ql ys).length cap) :=
    .sl 1 false (bH.ql ys) (some ⟨g,0,none⟩) cap g 0 (fun k j=>((ys[k]?).map (Value.int .i64)).getD undef) (fun _=>rfl) (fun _ _ h=>by have:=h.2;omega) (by rw[bH.kD];omega) (fun h=>by cases h)
     (fun x hx=>by obtain⟨b,_,rfl⟩:=yG.1 hx;rfl)
     (fun k j hk hj=>by
      rw[bH.kD]at hk;have:j=0:=zO
      subst this;rw[yA hk,y12,Nat.mul_one,Nat.add_zero];simp only[World.cell?,hg];exact lT k hk)
     (fun k j hk hj=>by
      rw[bH.kD]at hk;rw[yA hk];rfl)
     (fun k j hk hj=>by
      rw[bH.kD]at hk;have:j=0:=zO
      subst this;rw[yA hk];have e:(bH.ql ys).getD k []=bH.LW ys[k]:=by rw[yB];simp[bH.ql,yA hk]
      rw[e];exact .lit _)
   rw[bH.kD]at key;exact dI.pure _ _ key
end Go.Mg
namespace Go.Am
open Go
theorem Qn{G}{V}{b j}{cells}{x y}(hG:aD G V)(hb:V.H[b]?=some (.box cells))(hj:cells[j]?=some x)(hxy:aF x y):∃V':View,V'.w=V.w/\V'.H=V.H.set b (.box (cells.set j y))/\Step V V'/\aD G V':=by
 obtain⟨t,vs,h1,h2⟩:=hG.eP b _ hb;have JN:=(yC.1 hj).1;have hx:dI V x (vs.getD j undef):=by
  have:=h2.2 j JN;grind
 have hr:bR V (cells.set j y) vs:=by
  have:=h2.set j (hxy V _ hx);have e:vs.set j (vs.getD j undef)=vs:=by
   apply ext_getElem?;grind
  grind
 obtain⟨V2,l1,l2,l3,l4⟩:=wE  (ou:=.box (cells.set j y))  hG hb rfl h1 h1 rfl (fun _ _=>rfl) rfl rfl rfl rfl trivial (fun V' hw hs=>⟨t,vs,by rw[hw];exact h1,hr.step hs⟩);grind
theorem aF.ahy{it}{es uz}(h:es.Perm uz):aF (.md it es) (.md it uz):=fun V v hr=>by
 have:=zM hr;cases this with
 |md _ _ uw hp r ents clock hb hc hk hd Ii Uo=>exact .pure _ _ (.md it _ uw (hp.trans h) r ents clock hb hc hk hd Ii Uo)
theorem ak.VX{P}{G}{f}{args}{H H'}{id}{es}(hp:∀e∈es,∀(V:View)v,dI V e.2 v->dR V.w V.M e.2 v)(h:ak P G f args H (.ret (.mp id)) H')(hH:H'[id]?=some (.map es)):ak P G f args H (.ret (.md true es)) (H'.set id .aH) :=
 fun V vs hV hG hr=>(h V vs hV hG hr).mono fun e w' he=>by
  obtain⟨V',rfl,k2,k3,k4,k5⟩:=he;cases e with
  |returned v =>
   obtain⟨V1,l1,l2,l3,l4,l5⟩:=xI (by rw[k4];exact hH) hp k3 k5;exact⟨V1,l1,k2.trans l3,l4,by rw[l2,k4],l5⟩
  |panicked _=>exact k5.elim
  |outgrown=>exact k5.elim
end Go.Am
namespace Go.Mg
open Go Go.Am Go.Proofs Go.eY Go.bH Go.yU Go.bV
theorem alR(v b:Int):(if b>v then b else v)=max v b:=by split<;>omega
theorem UK{S}(h:∀d∈S,fO d.1){a}(ha:fO a)b:jm P 3 (jE S) (.int .i64 a) (int (if b>bH.gI a S then b else bH.gI a S)) (jE (rQ S (a,b))):=by
 rw[alR];exact SE h ha _
theorem NJ:∀{ds S:List D},(∀d∈S,fO d.1)->(∀d∈ds,fO d.1)->∀d∈ds.foldl rQ S,fO d.1
 |[],_,h,_=>h
 |x::ds,S,h,k=>NJ (ds:=ds) (Fb h (k x y06)) fun d hd=>k d (yF _ hd)
theorem adH o(hv:vO o=true)(hl:o.cx.length<=1000000000):∀n k S,(∀d∈S,fO d.1)->o.cx.length-k=n->k<=o.cx.length ->
 Rq 4 71 0 (Dz o (nH o S) k) (.exit 0) { aL:=aC 31 [(0,.yl 0),(1,.ptr 1 0)],H:=nH o ((o.cx.drop k).foldl rQ S) }:=by
 intro n
 induction n with
 |zero =>
  intro k S _ hn hk;rw[y17 zO];exact apC o S k hl zO trivial
 |succ n ih =>
  intro k S hS hn hk;have bg:k<o.cx.length:=zO
  have hx:=yA bg;have hr:=SF hv _ (y03 bg);have nx:=ih (k+1) (rQ S (o.cx[k].1,o.cx[k].2)) (Fb hS hr) zO zO;rw[y01 bg];obtain⟨f,hg⟩:=I7 hS hr;exact apB o S _ k _ _ hl zO hx (apA o S _ _ _ _ f hg (UK hS hr _) yO) _ _ nx
theorem adI{o}(hv:vO o=true):∀d∈lat o,fO d.1:=fun d hd=>by
 have:=UF hv d hd;unfold fO;omega
theorem ahz(o:OP)S(hv:vO o=true)(hS:∀d∈S,fO d.1)(hl:o.cx.length<=1000000000):ak P G 71 [.yl 0,.ptr 1 0] (nH o S) (.ret (.bq [])) (nH o ((lat o).foldl rQ S)):=by
 have h:=adH o hv hl _ 0 S hS rfl yN;have hd:=ji.1 (ug hv).1;unfold lat;rw[foldl_append];by_cases hs:1<o.sq
 .rw [yL hs];have hS':=NJ hS (SF hv);have hr:fO o.dv:=by unfold fO;omega
  obtain⟨f,hg⟩:=I7 hS' hr;exact apE o S _ _ hl hs hd.2.2.2 (apz o _ _ _ _ _ f hg (UK hS' hr _) yO) h trivial
 .grind [apD]
def mrE(W:List (Value×AV)):List AV:=aC 70 [(2,aK),(3,.md true W),(4,.ptr 1 0),(18,.ptr 2 0)]
theorem ahA:c19 = .seq (.region 4 UJ false) (Code.tl c19):=zQ
theorem aaU:UJ.toList=[adD 0,adD 1]:=zQ
def Mr(M0:List OP):Type:={ x:Option (Value×AV)×List OP×List (Value×AV) // ∃lf,x.2.2=lf.map en/\(x.2.1++lf).Perm M0 }
def WB(dn:List OP):List D:=(En dn).foldl rQ []
def mrT(W:List (Value×AV)){M0}(σ:Mr M0):St:={ aL:=mrE W,H:=[.map (jE (WB σ.1.2.1)),.box [.mp 0],.iter σ.1.1 σ.1.2.2],dh:=[.nK 1] }
theorem aaV W left(kk:Value)(o:OP)S S'(hF:ak P G 71 [.yl 0,.ptr 1 0] (nH o S) (.ret (.bq [])) (nH o S')) :
 bn P G none 0 (Code.tl c19) ⟨gX (gX (mrE W) (some 19) (.bq [.lit (.bool true),.lit kk,op o])) (some 20) (Am.bool true),[.map (jE S),.box [.mp 0],.iter (some (kk,op o)) left],[.nK 1]⟩ ⟨mrE W,[.map (jE S'),.box [.mp 0],.iter (some (kk,op o)) left],[.nK 1]⟩ :=
 bM [kt (Eq.refl true),kc [] (@Ac o yO),ko (bC.range [2,3,6,18,19,20,21,22,23,24] 0 none bF.normal [] []),kc [6,4,1,0] hF,kp (show ∀(e:Value×AV),e∈jE S'->AV.gN [] (Prod.snd e)=true from Lh _),kp (show ∀(e:Value×AV),e∈jE S->AV.gN [] (Prod.snd e)=true from Lh _),kp (show ∀(e:Value×AV),e∈jE S'->AV.bP 3 (Prod.snd e)=true from oG _ _)] (aB 70 [2,3,4,18]) 3 zQ
theorem adJ(W C left:List (Value×AV))cur:sP P G none 0 (Code.tl c19) ⟨gX (gX (mrE W) (some 19) (.bq [.lit (.bool false)])) (some 20) (Am.bool false),[.aH,.box [.md true C],.iter cur left],[.nK 1]⟩ [bC.br false] =
 some (.exit 0,⟨gX (gX (mrE W) (some 19) (.bq [.lit (.bool false)])) (some 20) (Am.bool false),[.aH,.box [.md true C],.iter cur left],[.nK 1]⟩,[],[false=false]):=zQ
theorem adK(W C left:List (Value×AV))cur:Bq 0 (aB 70 [2,3,4]) 2 ⟨gX (gX (mrE W) (some 19) (.bq [.lit (.bool false)])) (some 20) (Am.bool false),[.aH,.box [.md true C],.iter cur left],[.nK 1]⟩=some (mX W C,[]):=zQ
def cN(M0:List OP):List D:=(Wx.filter fun d=>decide (d∈yS (En M0))).map fun d=>(d,ahq d M0)
theorem aaW:∀{W}{x},(yS W).Nodup->(x∈W↔x.1∈yS W/\x.2=bH.gI x.1 W)
 |[],x,_=>zS
 |y::W,x,h=>by
  have h':=nodup_cons.1 h;show x∈y::W↔x.1∈y.1::yS W/\x.2=(if y.1=x.1 then y.2 else bH.gI x.1 W);rw[yH,aaW h'.2];grind
theorem Lj{a b}(h:a.Perm b):(En a).Perm (En b):=(h.map lat).flatten
theorem Qo{M0}{d}:d∈En M0↔∃o∈M0,d∈lat o:=by
 unfold En;grind
theorem aaX{M0}(hv:∀o∈M0,vO o=true){d}(h:d∈yS (En M0)):0<=d/\d<512:=by
 obtain⟨x,hx,rfl⟩:=yG.1 h;obtain⟨o,ho,hd⟩:=Qo.1 hx;have:=UF (hv o ho) x hd;omega
theorem adL{M0}:yS (cN M0)=Wx.filter fun d=>decide (d∈yS (En M0)):=by
 unfold cN yS;rw[map_map];exact(map_congr_left  fun _ _=>rfl).trans (map_id _)
theorem WC M0:(yS (cN M0)).Pairwise (·<·):=by rw[adL];exact Qk.filter _
theorem aaY{l:List Int}(h:l.Pairwise (·<·)):l.Nodup:=h.imp fun h e=>zO
theorem ahB{M0}(hv:∀o∈M0,vO o=true){x}:x∈cN M0↔x.1∈yS (En M0)/\x.2=ahq x.1 M0:=by
 unfold cN;rw[yG];constructor
 .grind
 .rintro ⟨h1,h2⟩;exact⟨x.1,mem_filter.2 ⟨aaN.2 (aaX hv h1),y19 h1⟩,Prod.ext rfl h2.symm⟩
theorem nodup_keys{W}(h:(yS W).Nodup):W.Nodup:=by
 unfold yS Nodup at h;rw[pairwise_map]at h;exact h.imp fun h e=>h (by rw[e])
theorem aaZ{dn M0}(h:dn.Perm M0)(hv:∀o∈M0,vO o=true):(WB dn).Perm (cN M0):=by
 have hn:(yS (WB dn)).Nodup:=aeT  .nil;refine(perm_ext_iff_of_nodup (nodup_keys hn) (nodup_keys (aaY (WC M0)))).2 fun x=>?_;rw[aaW hn,ahB hv,WB,UE,aeS,ahq,aaM x.1 (Lj h)];have:x.1∈yS (En dn)↔x.1∈yS (En M0):=((Lj h).map (·.1)).mem_iff;rw[this];show(x.1∈yS []\/_)/\_=ndA x.1 (En M0) 0↔_;simp[yS]
theorem agK(M0:List OP)(hg:Uk M0)(W:List (Value×AV)):Rq 0 19 0 { aL:=aC 70 [(2,aK),(3,.md true W),(4,.ptr 1 0),(18,.ptr 2 0)],H:=[.map [],.box [.mp 0],.iter none (M0.map en)],dh:=[.nK 1] } (.exit 0) (mX W (jE (cN M0))):=by
 show bN P G none 0 c19 _ _ _;rw[ahA];have hv:∀o∈M0,vO o=true:=fun o ho=>(hg o ho).2;have key:=bN.iter (P:=P) (G:=G) (r:=none) (n0:=0) (m0:=4) (ta:=19) (it:=18) (id:=2) (ops:=UJ) (os:=[adD 1]) (o1:=adD 0) (rest:=Code.tl c19) (ex:=.exit 0) (Sg:=Mr M0) (mrT W) (fun σ=>σ.1.2.2) (mX W (jE (cN M0)))
  aaU zQ zQ zQ (fun σ=>rfl) (fun σ=>⟨σ.1.1,rfl⟩) ?_ ?_ (fun h=>by cases h)
 .exact key _ ⟨(none,[],M0.map en),M0,rfl,.refl _⟩ rfl
 .intro ⟨⟨cur,dn,left⟩,lf,ML,GL⟩ e left' hp;have ML:=ML;have hp:=hp;have GL:=GL;rw[ML]at hp;obtain⟨lf2,h2,hj⟩:=Fg hp;cases lf2 with
  |nil=>cases h2
  |cons o QH =>
   rw[map_cons]at h2;injection h2 with h2 h3;subst h2 h3;have adM:((dn++[o])++QH).Perm M0:=by grind
   have ho:=hg o (adM.mem_iff.1 zS);have hS:=NJ (S:=[]) (nofun) fun d hd=>by
    obtain⟨x,hx,hdx⟩:=Qo.1 hd;exact adI (hv x (GL.mem_iff.1 (y07 _ hx))) d hdx
   refine⟨⟨(some (en o),dn++[o],QH.map en),QH,rfl,adM⟩,gX (gX (mrE W) (some 19) (.bq [.lit (.bool true),.lit (kV o),op o])) (some 20) (Am.bool true),rfl,zQ,?_⟩;have h1:=aaV W (QH.map en) (kV o) o (WB dn) _ (ahz o (WB dn) ho.2 hS ho.1.Z5.cx);have e2:(lat o).foldl rQ (WB dn)=WB (dn++[o]):=by grind[WB,En,flatten_append]
   rw[e2]at h1;exact h1
 .intro ⟨⟨cur,dn,left⟩,lf,ML,GL⟩ h0;have ML:=ML;have h0:=h0;have GL:=GL;obtain rfl:lf=[]:=by simp_all
  subst h0;rw[y23]at GL;refine⟨gX (gX (mrE W) (some 19) (.bq [.lit (.bool false)])) (some 20) (Am.bool false),zQ,?_⟩;intro V0 V a h0 fB hG dK;have hH:=dK.H;obtain⟨V1,k1,k2,k3,k4⟩:=FW (b:=1) (j:=0) (cells:=[.mp 0]) (x:=.mp 0) (y:=.md true (jE (WB dn))) (z:=[]) (H1:=[.aH,.box [.mp 0],.iter cur []]) (ps:=[∀e∈jE (WB dn),e.2.fJ=true]) hG (by rw[hH];rfl) rfl rfl (by rw[hH];rfl) ⟨fun e he=>by obtain⟨x,_,rfl⟩:=yG.1 he;rfl,yO⟩;obtain⟨V2,l1,l2,l3,l4⟩:=Qn (b:=1) (j:=0) (cells:=[.md true (jE (WB dn))]) (x:=.md true (jE (WB dn))) (y:=.md true (jE (cN M0))) k4 (by rw[k2];rfl) rfl (aF.ahy ((aaZ GL hv).map _));have apO:jO V2 ⟨gX (gX (mrE W) (some 19) (.bq [.lit (.bool false)])) (some 20) (Am.bool false),[.aH,.box [.md true (jE (cN M0))],.iter cur []],[.nK 1]⟩ a:=⟨dK.aL.step (k3.trans l3),by rw[l2,k2];rfl,dK.dh.step (k3.trans l3)⟩;rw[<- k1,<- l1];refine Go.wpIn_mono (eT _ (adJ W (jE (cN M0)) [] cur) ⟨rfl,yO⟩ V0 V2 a h0 (fB.trans (k3.trans l3)) l4 apO) fun e a2 w2 hE=>?_;obtain⟨V3,rfl,m1,m2,m3,m4⟩:=hE;obtain⟨V4,n1,n2,n3,n4⟩:=kJ (adK W (jE (cN M0)) [] cur) trivial h0 m1 m2 m3;exact⟨V4,n1,n2,n3,n4,by cases e<;>first|exact m4.elim|exact m4⟩
theorem Z4{m}(h:∀x∈m,Xr x){d s}(hd:fO d)(hs:fO s)(hn:has m d s=false)z:bT P 49 (m.map en) (fV d s) z z false :=
 ⟨lD,uy hd hs,Ei h,.inr ⟨rfl,rfl,fun e he hq=>by
  obtain⟨x,hx,rfl⟩:=yG.1 he;obtain⟨h1,h2⟩:=nU hq;have:=ady.2 ⟨x,hx,by show(x.dv,x.sq)=_;rw[h1]⟩;grind⟩⟩
end Go.Mg
namespace Go.Am
open Go
theorem ak.Yt{P}{G}{f}{args}{H H' H1}{xs ys}{z}{ps}(h:ak P G f args H (.ret (.bq xs)) H')(ha:vZ H' xs z=some (ys,H1,ps))(dG:gZ ps):ak P G f args H (.ret (.bq ys)) H1 :=
 fun V vs hH hG hr=>(h V vs hH hG hr).mono fun e w' he=>by
  obtain⟨V',rfl,k2,k3,k4,k5⟩:=he;cases e with
  |returned v =>
   obtain⟨us,rfl,hu⟩:=GI k5;obtain⟨V1,l1,l2,l3,l4,l5⟩:=nY (by rw[k4];exact ha) dG k3 hu;exact⟨V1,l1,k2.trans l3,l4,l2,.bq ys us l5.1 l5.2⟩
  |panicked _=>exact k5.elim
  |outgrown=>exact k5.elim
end Go.Am
namespace Go.Mg
open Go Go.Am Go.Proofs Go.eY Go.bH Go.yU Go.bV
theorem ak4{x y x' y' z}(h:aF x x')(k:aF y y'):aF (.bq [x,y,z]) (.bq [x',y',z]):=.bq rfl fun j hj=>by
 match j,hj with
 |0,_=>exact h
 |1,_=>exact k
 |2,_=>exact .refl _
theorem acZ:aF aK (dQ []):=aF.nil 17
end Go.Mg
namespace Go.Mg
open Go Go.Am Go.Proofs Go.eY Go.bH Go.yU Go.bV
def cOp(dv sq tm n:Int)(nm:yP):OP:={ dv:=dv,sq:=sq,tm:=tm,cx:=[],pk:=3,pn:=nm,kd:=5,f1:=0,f2:=0,f3:=0,t1:=0,t2:=0,t3:=0,ky:=.empty,vl:=.empty,n:=n,on:=false }
def cNm:yP:=ByteArray.mk #[99]
theorem adN(d s t n:Int)out(h:aS.ret (AV.agg [int d,int s,int t,aK,int 3,str (ByteArray.mk #[99]),int 5,int 0,int 0,int 0,int 0,int 0,int 0,str (ByteArray.mk #[]),str (ByteArray.mk #[]),int n,Am.bool false])=out):ak P G 33 [int d,int s,int t,int n,aK] [] out []:=by
 have e1:=h;exact e1▸(((aj [])))
def aO:OP:=cOp 5 1 1 3 cNm
def bO:OP:=cOp 5 2 2 4 cNm
def tS(l:List OP):AV:=.sl 17 true (dZ l)
end Go.Mg
namespace Go.Am
open Go
theorem aF.agg{xs ys}(hl:ys.length=xs.length)(h:∀j,j<xs.length->aF (xs.getD j .aP) (ys.getD j .aP)):aF (.agg xs) (.agg ys):=fun V v hr=>by
 obtain⟨vs,rfl,h1,h2⟩:=uO hr;exact .agg ys vs (h1.trans hl.symm) fun j hj=>h j zO V _ (h2 j zO)
end Go.Am
namespace Go.Mg
open Go Go.Am Go.Proofs Go.eY Go.bH Go.yU Go.bV
theorem aou:kK [bO,aO,aO]=[aO,bO]:=zQ
theorem ak7:kK [bO,aO]=[aO,bO]:=zQ
theorem aov:kK [bO]=[bO]:=zQ
theorem ak8:GR [aO,bO]=[aO,bO]:=zQ
theorem aow:GR [bO]=[]:=zQ
theorem ak6:eZ [(1,0)]=120:=zQ
theorem gdA:Gd aO:=by constructor<;>constructor<;>first|decide|(done)|(decide)
theorem Pz l:aF (tS l) (dQ l):=aF.oP 17 true (dZ l)
theorem PD{f}{x y}{out}(h:ak P G f [y] [] out [])(hs:aF x y):ak P G f [x] [] out []:=ak.qp h  ⟨hs,yO⟩
theorem I9{f}{x y x' y'}{out}(h:ak P G f [x',y'] [] out [])(h1:aF x x')(h2:aF y y'):ak P G f [x,y] [] out []:=ak.qp h  ⟨h1,h2,yO⟩
theorem qH{f}{args}{u}(h:ak P G f args [] (.ret (SB u)) []):ak P G f args [] (.ret (dQ u)) [] :=
 h.out (show aF (SB u) (dQ u) by unfold SB;split;(rename_i e;rw[e];exact acZ);exact y34)
theorem Ul d s t n:Cq 33 [int d,int s,int t,int n,aK] (op (cOp d s t n cNm)) :=
 (adN d s t n _ rfl).out (aF.agg rfl fun j hj=>by
  match j,hj with
  |3,_=>exact aF.nil 2
  |0,_|1,_|2,_|4,_|5,_|6,_|7,_|8,_|9,_|10,_|11,_|12,_|13,_|14,_|15,_|16,_=>exact y34
  |k+17,hj=>exact absurd hj (by show ¬k+17<17;omega))
theorem gdB:Gd bO:=by constructor<;>constructor<;>first|decide|(done)|(decide)
theorem Xm{l}(h:∀o∈l,o=aO\/o=bO):rZ l:=fun o ho=>(h o ho).elim (fun e=>e▸gdA) (fun e=>e▸gdB)
theorem aox:Cq 16 [dQ [bO,aO]] (dQ [aO,bO]):=by
 have h:=qH (GX [bO,aO] zS (Xm zS));rwa[ak7]at h
theorem cxl{l:List OP}(h:∀o∈l,o=aO\/o=bO):∀x∈l,x.cx.length<=1000000000:=fun o ho=>(Xm h o ho).Z5.cx
theorem alS{o}(hp:Fw o)(hf:Ad o=true):Gd o:=by
 unfold Ad at hf;simp only[y04,y05]at hf;exact⟨hp,⟨zO,zO,zO,zO⟩⟩
theorem KU{l}(m:Nat)(hp:∀o∈l,Fw o)(hl:l.length<=9223372036854775807) :
 Cq 12 [dQ l,int m] (Am.bool false)\/(Cq 12 [dQ l,int m] (Am.bool true)/\l.length<=m/\rZ l):=by
 have h:=ahr l m hl;cases e:(l.all Ad&&decide ((l.length:Int)<=m))with
 |false=>rw[e]at h;grind
 |true =>
  rw[e]at h;simp only[y04,y05]at e;exact .inr ⟨h,zO,fun o ho=>alS (hp o ho) (all_eq_true.1 e.1 o ho)⟩
theorem cz3:Tryz.prog.cellsOf 3=1:=zQ
theorem apP:Tryz.prog.cellsOf 22=1:=zQ
theorem cz4:Tryz.prog.cellsOf 4=1:=zQ
theorem cz9:Tryz.prog.cellsOf 9=1:=zQ
theorem ahC:Tryz.prog.cellsOf 49=2:=zQ
theorem apQ:Tryz.prog.cellsOf 29=1:=zQ
theorem apR:Tryz.prog.cellsOf 51=2:=zQ
theorem apT:Tryz.prog.cellsOf 53=3:=zQ
theorem ahD:Tryz.prog.cellsOf 55=17:=zQ
noncomputable def NK:zA Tryz.prog 3 Int:=zA.int Tryz.underlying3 cz3
noncomputable def ahE:zA Tryz.prog 9 yP:=zA.str Tryz.underlying9 cz9
noncomputable def alT:zA Tryz.prog 4 Bool:=zA.bool Tryz.underlying4 cz4
noncomputable def alU:zA Tryz.prog 49 D:=zA.struct Tryz.underlying49 zQ (oM.cons NK rfl (oM.cons NK zQ oM.nil)) (fun a=>(a.1,a.2.1)) bH.aQ (fun _=>rfl) (fun _=>ahC.symm)
noncomputable def ahF:zA Tryz.prog 29 (List D):=zA.slice Tryz.underlying29 apQ (by rw[ahC];decide) alU
theorem aa0 v:ahF.aQ v=[bB v]:=by
 show[AV.sl (Tryz.prog.cellsOf 49) false (v.map bH.aQ)]=[AV.sl 2 false (v.map bH.aQ)];rw[ahC]
noncomputable def alV:zA Tryz.prog 51 (Int×yP):=zA.struct Tryz.underlying51 zQ (oM.cons NK rfl (oM.cons ahE zQ oM.nil)) (fun a=>(a.1,a.2.1)) (fun a=>[Am.int a.1,Am.str a.2]) (fun _=>rfl) (fun _=>apR.symm)
noncomputable def kID:zA Tryz.prog 53 (Int×Int×Int):=zA.struct Tryz.underlying53 zQ (oM.cons NK rfl (oM.cons NK zQ (oM.cons NK zQ oM.nil))) (fun a=>(a.1,a.2.1,a.2.2.1)) (fun a=>[Am.int a.1,Am.int a.2.1,Am.int a.2.2]) (fun _=>rfl) (fun _=>apT.symm)
abbrev AO:=D×Int×List D×(Int×yP)×Int×(Int×Int×Int)×(Int×Int×Int)×yP×yP×Int×Bool×Unit
noncomputable def kOp:zA Tryz.prog 55 OP:=zA.struct Tryz.underlying55 zQ (oM.cons alU rfl (oM.cons NK zQ (oM.cons ahF zQ (oM.cons alV zQ (oM.cons NK zQ (oM.cons kID zQ (oM.cons kID zQ (oM.cons ahE zQ (oM.cons ahE zQ (oM.cons NK zQ (oM.cons alT zQ oM.nil)))))))))))
 (fun a:AO=>⟨a.1.1,a.1.2,a.2.1,a.2.2.1,a.2.2.2.1.1,a.2.2.2.1.2,a.2.2.2.2.1,a.2.2.2.2.2.1.1,a.2.2.2.2.2.1.2.1,a.2.2.2.2.2.1.2.2,a.2.2.2.2.2.2.1.1,a.2.2.2.2.2.2.1.2.1,a.2.2.2.2.2.2.1.2.2,a.2.2.2.2.2.2.2.1,a.2.2.2.2.2.2.2.2.1,a.2.2.2.2.2.2.2.2.2.1,a.2.2.2.2.2.2.2.2.2.2.1⟩) jy
 (fun a:AO=>by
  show jy _=bH.aQ a.1++([Am.int a.2.1]++(ahF.aQ a.2.2.1++([Am.int a.2.2.2.1.1,Am.str a.2.2.2.1.2]++([Am.int a.2.2.2.2.1]++([Am.int a.2.2.2.2.2.1.1,Am.int a.2.2.2.2.2.1.2.1,Am.int a.2.2.2.2.2.1.2.2]++([Am.int a.2.2.2.2.2.2.1.1,Am.int a.2.2.2.2.2.2.1.2.1,Am.int a.2.2.2.2.2.2.1.2.2]++([Am.str a.2.2.2.2.2.2.2.1]++([Am.str a.2.2.2.2.2.2.2.2.1]++([Am.int a.2.2.2.2.2.2.2.2.2.1]++([Am.bool a.2.2.2.2.2.2.2.2.2.2.1]++[]))))))))));rw[aa0];rfl) (fun _=>ahD.symm)
theorem adO{o}(h:kOp.good o):Fw o:=by
 obtain⟨⟨⟨_,_⟩,_,_,⟨_,_⟩,_,⟨_,_,_⟩,⟨_,_,_⟩,_,_,_,_,_⟩,rfl,⟨⟨_,_,_⟩,ed,d1,d2,_⟩,h1,h2,⟨⟨_,_,_⟩,ep,p1,p2,_⟩,h4,⟨⟨_,_,_,_⟩,ef,f1,f2,f3,_⟩,⟨⟨_,_,_,_⟩,et,t1,t2,t3,_⟩,h7,h8,h9,_⟩:=h;cases ed;cases ep;cases ef;cases et;refine⟨d1,d2,h1,fun x hx=>?_,p1,h4,f1,f2,f3,t1,t2,t3,h9⟩;obtain⟨⟨_,_,_⟩,rfl,q1,q2,_⟩:=h2.2 x hx;exact⟨q1,q2⟩
noncomputable def alW:zA Tryz.prog 22 (List OP):=zA.slice Tryz.underlying22 apP (by rw[ahD];decide) kOp
theorem aa1 v:alW.aQ v=[dQ v]:=by
 show[AV.sl (Tryz.prog.cellsOf 55) false (v.map jy)]=[AV.sl 17 false (v.map jy)];rw[ahD]
theorem KV{H}{aQ}{W}{base}{v}{d:DataW H}{ps}(hv:Value.okWide Tryz.prog W .any base 22 v)(h:DataW.Trod aQ Tryz.prog W 0 (fun _=>true) true 22 v d ps):∃l:List OP,(l.length<=9223372036854775807/\∀o∈l,Fw o)/\dI (nA W) (dQ l) v:=by
 obtain⟨a,h1,h2⟩:=alW.one zQ hv h aa1;exact⟨a,⟨h1.1,fun o ho=>adO (h1.2 o ho)⟩,h2⟩
end Go.Mg
namespace Go.Dc
open Go Go.Am Go.Proofs Go.eY Go.bH
abbrev TL:=Int×Int×Int
def ze(t:TL):List AV:=[int t.1,int t.2.1,int t.2.2]
def lH(l:List TL):List (List AV):=l.map ze
def mF(l:List TL):AV:=.sl 3 false (lH l)
theorem dP l:(lH l).length=l.length:=by simp[lH]
def Tf(d s:Int):Bool:=decide (0<=d)&&decide (d<512)&&decide (1<=s)&&decide (s<=1048576)
theorem aa2 d s(h:(((0<=d)->(((d<512)->(((1<=s)->(decide (s<=1048576))=(Tf d s))/\((¬1<=s)->(false)=(Tf d s))))/\((¬d<512)->(false)=(Tf d s))))/\((¬0<=d)->(false)=(Tf d s)))):Cq 152 [int d,int s] (Am.bool (Tf d s)):=by
 by_cases c1:(0<=d)
 .have h:=h.1 c1;by_cases c2:(d<512)
  .have h:=h.1 c2;by_cases c3:(1<=s)
   .have h:=h.1 c3;exact aA (aF.aI h) [kt (qT c1),kt (qT c2),kt (qT c3)]
   .have h:=h.2 c3;exact aA (aF.aI h) [kt (qT c1),kt (qT c2),kf (qF c3)]
  .have h:=h.2 c2;exact aA (aF.aI h) [kt (qT c1),kf (qF c2),kY]
 .have h:=h.2 c1;exact aA (aF.aI h) [kf (qF c1),kY,kY]
theorem OL d s:Cq 152 [int d,int s] (Am.bool (Tf d s)):=aa2 d s (by
 unfold Tf;grind)
def Xg:Int->List TL->Bool
 |_,[]=>true
 |last,t::l=>Tf t.1 t.2.1&&decide (last<t.1)&&Xg t.1 l
def vC(l:List TL):Int:=if Xg (-1) l=true then 0 else 150
def tkS(l:List TL)(last:Int)(k:Nat):St:={ aL:=aC 27 [(2,int 0),(3,int last),(6,mF l),(7,int l.length),(8,int k)],H:=[] }
theorem apU l(last:Int)(k:Nat)(hk:¬k<(l.length:Int))(ex:bF)s'(h:(bF.exit 0=ex)/\(sM 27 [(2,int 0)] []=s')):Rq 0 112 0 (tkS l last k) ex s':=by
 obtain⟨eX,eS⟩:=h;exact bN.to ((aG [kj ((k:Int)<l.length)] (aB 27 [2]) 0)) eX (eB.of_eq eS)
theorem apV(l:List TL)(last a b c:Int)w(k:Nat)(hl:l.length<=1000000)(hk:k<(l.length:Int))(hx:l[k]?=some (a,b,c))(hW:Cq 152 [int a,int b] (Am.bool w))(ex:bF)s'(h:((((w)=true)->(((a<=last)->(bF.ret=ex)/\(sM 27 [(2,int 150)] []=s'))/\((¬a<=last)->Rq 0 112 0 (sM 27 [(2,int 0),(3,int a),(6,.sl 3 false (lH l)),(7,int ↑l.length),(8,int ↑(k+1))] []) ex s')))/\(((w)=false)->(bF.ret=ex)/\(sM 27 [(2,int 150)] []=s')))):Rq 0 112 0 (tkS l last k) ex s':=by
 let l1:List fP:=[ki ((k:Int)<l.length),ke (ze (a,b,c)) (lH l) k (bG hx),kc [] hW];rcases y00 ((w))with c2|c2
 .have h:=h.1 c2;have x9:=(y32 (c2));by_cases c3:(a<=last)
  .have h:=h.1 c3;obtain⟨eX,eS⟩:=h;exact bN.to ((aG (l1++[kf x9,kt (qT c3)]) (aB 27 [2]) 0)) eX (eB.of_eq eS)
  .have h:=h.2 c3;exact aJ (l1++[kf x9,kf (qF c3),kW 26 (k+1) ↑(k+1)]) (aB 27 [2,3,6,7,8]) 0 h
 .have h:=h.2 c2;obtain⟨eX,eS⟩:=h;exact bN.to ((aG (l1++[kt (show(!w)=true from(y32 (c2))),kO]) (aB 27 [2]) 0)) eX (eB.of_eq eS)
theorem adP l(hl:l.length<=1000000):∀n k last,l.length-k=n->k<=l.length->Rq 0 112 0 (tkS l last k) (if Xg last (l.drop k)=true then .exit 0 else .ret) { aL:=aC 27 [(2,int (if Xg last (l.drop k)=true then 0 else 150))],H:=[] }:=by
 intro n
 induction n with
 |zero =>
  intro k last hk LB;rw[y21 zO];exact apU l last k zO _ _ ⟨rfl,rfl⟩
 |succ n ih =>
  intro k last hk LB;have bg:k<l.length:=zO
  have hx:l[k]?=some (l[k].1,l[k].2.1,l[k].2.2):=yA bg;rw[y01 bg];unfold Xg;refine apV l last _ _ _ (Tf l[k].1 l[k].2.1) k hl zO hx (OL _ _) _ _ ⟨fun hw=>⟨fun ha=>?_,fun ha=>?_⟩,fun hw=>?_⟩
  .grind
  .rw [hw,y19 zO];exact ih (k+1) _ zO zO
  .grind
theorem alX l(hL:Rq 0 112 0 (tkS l (-1) 0) (.exit 0) { aL:=aC 27 [(2,int 0)],H:=[] })(h:True):Cq 112 [mF l] (int 0):=by
 exact aj [kN 7 (dP l),kl (rG [(0,2),(4,2),(9,18)]) 0 hL]
theorem alY l(hL:Rq 0 112 0 (tkS l (-1) 0) .ret { aL:=aC 27 [(2,int 150)],H:=[] })(h:True):Cq 112 [mF l] (int 150):=by
 exact aj [kN 7 (dP l),kl (rG [(0,2),(4,2),(9,18)]) 0 hL]
theorem OA l(hl:l.length<=1000000):Cq 112 [mF l] (int (vC l)):=by
 have h:=adP l hl _ 0 (-1) rfl yN;rw[drop_zero]at h;unfold vC;by_cases e:Xg (-1) l=true
 .simp only[yL e]at h |-;exact alX l h trivial
 .simp only[yK e]at h |-;exact alY l h trivial
end Go.Dc
namespace Go.Am
open Go
def xP(x y:AV):Prop:=∀w M v,dR w M x v->dR w M y v
theorem xP.refl x:xP x x:=fun _ _ _ h=>h
theorem xP.nil sz:xP (.lit (.slice none 0 0)) (.sl sz false []):=fun w M v h=>by
 cases h;exact .sl sz false [] none 0 0 0 (fun _ _=>undef) (fun h=>absurd rfl h) (fun h=>absurd rfl h) yM (fun h=>by cases h) (fun x hx=>by cases hx) (fun k j hk=>absurd hk (y28 _)) (fun k j hk=>absurd hk (y28 _)) (fun k j hk=>absurd hk (y28 _))
theorem aF.anK{sz}{t}{xs ys}(hl:ys.length=xs.length)(iZ:∀y∈ys,y.length=sz)(h:∀k j,k<xs.length->j<sz->xP ((xs.getD k []).getD j .aP) ((ys.getD k []).getD j .aP)):aF (.sl sz t xs) (.sl sz false ys):=fun V v h9=>by
 have hp:=jF h9;cases hp with
 |sl _ _ _ A cap b o vs hA hb pK ht h1 hc ho hr =>
  have fF:ys≠[]->xs≠[]:=fun h1 h2=>h1 (y02 (by rw[hl,h2];rfl));have:dR V.w V.M (.sl sz false ys) (.slice A ys.length cap):=.sl sz false ys A cap b o vs (fun h=>hA (fF h)) (fun h=>hb (fF h)) zO (fun h=>by cases h) iZ (fun k j hk hj=>hc k j zO hj) (fun k j hk hj=>ho k j zO hj) (fun k j hk hj=>h k j zO hj _ _ _ (hr k j zO hj));rw[hl]at this;exact .pure _ _ this
theorem aF.aed sz:aF (.lit (.slice none 0 0)) (.sl sz true []):=fun V v h=>by
 rw[bW h];exact .pure _ _ (.sl sz true [] none 0 0 0 (fun _ _=>undef) (fun h=>absurd rfl h) (fun h=>absurd rfl h) yM (fun _=>rfl) zS (fun k j hk=>absurd hk zS) (fun k j hk=>absurd hk zS) (fun k j hk=>absurd hk zS))
theorem ak.Zm{P}{G}{f}{args}{H H' H1}{cs ds}{z0}{z}{ps}(h:ak P G f args H (.ret (.bq [.agg cs,z0])) H')(ha:vZ H' cs z=some (ds,H1,ps))(dG:gZ ps):ak P G f args H (.ret (.bq [.agg ds,z0])) H1 :=
 fun V vs hH hG hr=>(h V vs hH hG hr).mono fun e w' he=>by
  obtain⟨V',rfl,k2,k3,k4,k5⟩:=he;cases e with
  |returned v =>
   obtain⟨us,rfl,hu⟩:=GI k5;obtain⟨a,b,rfl⟩:∃a b,us=[a,b]:=by
    have:=hu.1
    match us,this with
    |[a,b],_=>exact⟨a,b,rfl⟩
   obtain⟨ws,rfl,hw⟩:=uO hu.head;obtain⟨V1,l1,l2,l3,l4,l5⟩:=nY (by rw[k4];exact ha) dG k3 hw;have hR:bR V1 [.agg ds,z0] [.agg ws.toArray,b]:=.cons (.agg ds ws l5.1 l5.2) (hu.tail.step l3);exact⟨V1,l1,k2.trans l3,l4,l2,.bq _ _ hR.1 hR.2⟩
  |panicked _=>exact k5.elim
  |outgrown=>exact k5.elim
end Go.Am
namespace Go.Sq
open Go Go.Am Go.Proofs Go.eY
def G(_:Nat):Option (List AV):=none
abbrev Rq(n f k:Nat)(s:St)(ex:bF)(s':St):Prop:=bN P G none n (vg P f k) s ex s'
abbrev Cq(f:Nat)(a:List AV)(x:AV):Prop:=ak P G f a [] (.ret x) []
theorem up{f}{xs}{H}{out}{H'}(h:ak P G f xs H out H'):ak P eY.G f xs H out H':=fun V vs hH hG hr =>
 (h V vs hH ⟨hG.lt,hG.eP,hG.inj,hG.gW,fun g cs hg=>by cases hg⟩ hr).mono fun e w' ⟨V',a1,a2,a3,a4,a5⟩=>⟨V',a1,a2,⟨a3.lt,a3.eP,a3.inj,a3.gW,hG.gD a2⟩,a4,a5⟩
abbrev ID:=Int×Int×Int
structure CE where
 dv:Int
 sq:Int
 gU:Int
 ad:Int
 j6:Int
 aa:Int
 tm:Int
 vl:yP
 gn:Bool
 deriving DecidableEq
def aQ(c:CE):List AV:=[int c.dv,int c.sq,int c.gU,int c.ad,int c.j6,int c.aa,int c.tm,str c.vl,bool c.gn]
def au(v:List CE):List (List AV):=v.map aQ
def bZ(v:List CE):AV:=.sl 9 false (au v)
def nP(c:CE):AV:=.agg (aQ c)
abbrev oO(a b c:Int):AV:=.agg [int a,int b,int c]
def CE.id(c:CE):ID:=(c.dv,c.sq,c.gU)
def CE.after(c:CE):ID:=(c.ad,c.j6,c.aa)
theorem ay v:(au v).length=v.length:=by simp[au]
theorem sF v(k:Nat):(au v)[k]?=(v[k]?).map aQ:=by simp[au]
theorem gy a b:au a++au b=au (a++b):=by simp[au]
theorem sN c:[aQ c]=au [c]:=rfl
theorem Aw a b c d e f t(s:yP)g:[[AV.lit (Value.int IntKind.i64 a),AV.lit (Value.int IntKind.i64 b),AV.lit (Value.int IntKind.i64 c),AV.lit (Value.int IntKind.i64 d),AV.lit (Value.int IntKind.i64 e),AV.lit (Value.int IntKind.i64 f),AV.lit (Value.int IntKind.i64 t),AV.lit (Value.string s),AV.lit (Value.bool g)]]=au [⟨a,b,c,d,e,f,t,s,g⟩]:=rfl
theorem iI v(n:Nat):List.drop n (au v)=au (v.drop n):=by simp[au]
theorem gF v(n:Nat):List.take n (au v)=au (v.take n):=by simp[au]
theorem CW v(n:Nat)c:(au v).set n (aQ c)=au (v.set n c):=by simp[au]
theorem bK v:∀c∈au v,c.all AV.fJ=true:=by
 intro c hc;obtain⟨d,_,rfl⟩:=yG.1 hc;rfl
theorem bJ v:∀c∈au v,AV.aM [] c=true:=by
 intro c hc;obtain⟨d,_,rfl⟩:=yG.1 hc;rfl
theorem dW v:List.take v.length (List.drop 0 (au v))=au v:=by rw[<- ay v];simp
theorem rC(a b:yP):(ByteArray.toList a==ByteArray.toList b)=decide (a=b):=by
 rw[ByteArray.toList_eq,ByteArray.toList_eq];by_cases h:a=b
 .subst h;simp
 .rw [y20 h];refine beq_eq_false_iff_ne.2 fun e=>h (ByteArray.ext (Array.toList_inj.1 e))
theorem tN(a b:yP):(a==b)=decide (a=b):=by
 obtain⟨⟨a⟩⟩:=a;obtain⟨⟨b⟩⟩:=b;show(a.toArray==b.toArray)=_;grind
end Go.Sq
namespace Go.Tx
open Go Go.Am Go.Proofs Go.eY
abbrev G:=eY.G
class Below(g:Nat->Option (List AV)):Prop where
 JZ:∀{f:FuncId}{xs:List AV}{H:List ah}{out:aS}{H':List ah},ak P g f xs H out H'->ak P G f xs H out H'
instance:Below Sq.G:=⟨Sq.up⟩
instance:Below eY.G:=⟨id⟩
theorem JZ{g}[b:Below g]{f}{xs}{H}{out}{H'}(h:ak P g f xs H out H'):ak P G f xs H out H':=b.JZ h
structure MK where
 dv:Int
 sq:Int
 tm:Int
 fd:Int
 fs:Int
 fa:Int
 td:Int
 ts:Int
 ta:Int
 st:Int
 on:Bool
 deriving DecidableEq
def MK.eG(m:MK):Int×Int:=(m.dv,m.sq)
def MK.frm(m:MK):Sq.ID:=(m.fd,m.fs,m.fa)
def MK.upto(m:MK):Sq.ID:=(m.td,m.ts,m.ta)
def aQ(m:MK):List AV:=[int m.dv,int m.sq,int m.tm,int m.fd,int m.fs,int m.fa,int m.td,int m.ts,int m.ta,int m.st,bool m.on]
def au(v:List MK):List (List AV):=v.map aQ
def oI(v:List MK):AV:=.sl 11 false (au v)
def EC(m:MK):AV:=.agg (aQ m)
abbrev Q9(a b:Int):AV:=.agg [int a,int b]
structure TE where
 cells:List Sq.CE
 bQ:List MK
 deriving DecidableEq
abbrev mG(t:TE):AV:=.agg [Sq.bZ t.cells,oI t.bQ]
theorem ay v:(au v).length=v.length:=by simp[au]
theorem gy a b:au a++au b=au (a++b):=by simp[au]
theorem sN m:[aQ m]=au [m]:=rfl
theorem Aw(a b c d e f g h i j:Int)o:[[AV.lit (Value.int IntKind.i64 a),AV.lit (Value.int IntKind.i64 b),AV.lit (Value.int IntKind.i64 c),AV.lit (Value.int IntKind.i64 d),AV.lit (Value.int IntKind.i64 e),AV.lit (Value.int IntKind.i64 f),AV.lit (Value.int IntKind.i64 g),AV.lit (Value.int IntKind.i64 h),AV.lit (Value.int IntKind.i64 i),AV.lit (Value.int IntKind.i64 j),AV.lit (Value.bool o)]]=au [⟨a,b,c,d,e,f,g,h,i,j,o⟩]:=rfl
theorem iI v(n:Nat):List.drop n (au v)=au (v.drop n):=by simp[au]
theorem gF v(n:Nat):List.take n (au v)=au (v.take n):=by simp[au]
theorem bK v:∀c∈au v,c.all AV.fJ=true:=by
 intro c hc;obtain⟨d,_,rfl⟩:=yG.1 hc;rfl
theorem bJ v:∀c∈au v,AV.aM [] c=true:=by
 intro c hc;obtain⟨d,_,rfl⟩:=yG.1 hc;rfl
theorem dW v:List.take v.length (List.drop 0 (au v))=au v:=by rw[<- ay v];simp
end Go.Tx
namespace Go.Bd
open Go Go.Am Go.Proofs Go.eY
structure BE where
 ky:yP
 dv:Int
 sq:Int
 tm:Int
 vl:yP
 deriving DecidableEq
def BE.eG(b:BE):Int×Int:=(b.dv,b.sq)
def aQ(b:BE):List AV:=[str b.ky,int b.dv,int b.sq,int b.tm,str b.vl]
def au(v:List BE):List (List AV):=v.map aQ
def iK(v:List BE):AV:=.sl 5 false (au v)
def oN(b:BE):AV:=.agg (aQ b)
abbrev Q9(a b:Int):AV:=.agg [int a,int b]
abbrev yT(f:Nat):AV:=.lit (.func (.func f) #[] #[])
theorem ay v:(au v).length=v.length:=by simp[au]
theorem gy a b:au a++au b=au (a++b):=by simp[au]
theorem sN b:[aQ b]=au [b]:=rfl
theorem Aw(k:yP)a b c(s:yP):[[AV.lit (Value.string k),AV.lit (Value.int IntKind.i64 a),AV.lit (Value.int IntKind.i64 b),AV.lit (Value.int IntKind.i64 c),AV.lit (Value.string s)]]=au [⟨k,a,b,c,s⟩]:=rfl
theorem iI v(n:Nat):List.drop n (au v)=au (v.drop n):=by simp[au]
theorem gF v(n:Nat):List.take n (au v)=au (v.take n):=by simp[au]
theorem CW v(n:Nat)b:(au v).set n (aQ b)=au (v.set n b):=by simp[au]
theorem bK v:∀c∈au v,c.all AV.fJ=true:=by
 intro c hc;obtain⟨d,_,rfl⟩:=yG.1 hc;rfl
theorem bJ v:∀c∈au v,AV.aM [] c=true:=by
 intro c hc;obtain⟨d,_,rfl⟩:=yG.1 hc;rfl
theorem dW v:List.take v.length (List.drop 0 (au v))=au v:=by rw[<- ay v];simp
theorem rC(a b:yP):(ByteArray.toList a==ByteArray.toList b)=decide (a=b):=by
 rw[ByteArray.toList_eq,ByteArray.toList_eq];by_cases h:a=b
 .subst h;simp
 .rw [y20 h];refine beq_eq_false_iff_ne.2 fun e=>h (ByteArray.ext (Array.toList_inj.1 e))
theorem tN(a b:yP):(a==b)=decide (a=b):=by
 obtain⟨⟨a⟩⟩:=a;obtain⟨⟨b⟩⟩:=b;show(a.toArray==b.toArray)=_;rw[Bool.eq_iff_iff];simp
end Go.Bd
