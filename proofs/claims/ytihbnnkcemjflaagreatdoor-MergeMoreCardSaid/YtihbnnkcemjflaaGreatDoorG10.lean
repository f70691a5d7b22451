import Derived.Test.YtihbnnkcemjflaaGreatDoorG9
import Derived.KernelRfl
set_option maxRecDepth 100000
set_option linter.unusedSimpArgs false
set_option linter.unusedVariables false

namespace Go.Am
open Go
structure Itm where
 o:List Orc
 p:List Prop
 h:AllP p
def orcsOf:List Itm→List Orc
 | []=>[]
 | i::l=>i.o++orcsOf l
def propsOf:List Itm→List Prop
 | []=>[]
 | i::l=>i.p++propsOf l
theorem propsAll:∀ l:List Itm,AllP (propsOf l)
 | []=>trivial
 | i::l=>allP_append.2 ⟨i.h,propsAll l⟩
def ko (o:Orc):Itm:=⟨[o],[],trivial⟩
def kp {p:Prop} (h:p):Itm:=⟨[],[p],⟨h,trivial⟩⟩
def kc {P:Program} {G:Nat→Option (List AV)} {f:FuncId} {args:List AV} {Hs:List AObj} {out:AOut} {Hs':List AObj} (e:List Nat) (h:CallC P G f args Hs out Hs'):Itm:=⟨[.call e out Hs'],[CallC P G f args Hs out Hs'],⟨h,trivial⟩⟩
def kt {b:Bool} (h:b=true):Itm:=⟨[.br true],[b=true],⟨h,trivial⟩⟩
def kf {b:Bool} (h:b=false):Itm:=⟨[.br false],[b=false],⟨h,trivial⟩⟩
def kv {x y:AV} (d:Nat) (h:Sub x y):Itm:=⟨[.val (some d) y],[Sub x y],⟨h,trivial⟩⟩
def kl {P:Program} {G:Nat→Option (List AV)} {r:Option Nat} {n0:Nat} {c:Code} {s:St} {ex:AEx} {s':St} (dead:List Nat) (n:Nat) (h:RunL P G r n0 c s ex s'):Itm:=⟨[.loop dead n ex s'.env s'.H],[RunL P G r n0 c s ex s'],⟨h,trivial⟩⟩
abbrev kO:Itm:=kt (Eq.refl true)
abbrev kY:Itm:=kf (Eq.refl false)
theorem qT {p:Prop} [Decidable p] (h:p):decide p=true:=decide_eq_true h
theorem qF {p:Prop} [Decidable p] (h:¬p):decide p=false:=decide_eq_false h
theorem qN {α:Type} [BEq α] [LawfulBEq α] {a b:α}:(a == b)=false↔a≠b:=beq_eq_false_iff_ne
theorem qEq {α:Type} [BEq α] [LawfulBEq α] {a b:α}:(a == b)=true↔a=b:=beq_iff_eq
abbrev ki (p:Prop) [Decidable p] (h:p:=by omega):Itm:=kt (decide_eq_true h)
abbrev kj (p:Prop) [Decidable p] (h:¬p:=by omega):Itm:=kf (decide_eq_false h)
abbrev kW (d:Nat) (a b:Int) (h1 : -9223372036854775808≤a:=by omega) (h2:a<9223372036854775808:=by omega) (h3:a=b:=by omega):Itm:=kv d (Sub.of_wrap h1 h2 h3)
abbrev kN (d:Nat) {a b:Nat} (h:a=b):Itm:=kv d (show Sub (int a) (int b) from Sub.of_eq (by rw [h]))
abbrev kne (x:List AV):Itm:=kp (show [x]≠[] from by simp)
abbrev kBd (n:Nat) (h:n≤140737488355328:=by omega):Itm:=kp h
abbrev kq {α:Type} (a:α):Itm:=kp (show a=a from rfl)
abbrev ke (x:List AV) (l:List (List AV)) (i:Int) (h:0≤i∧l[i.toNat]? = some x):Itm:=⟨[.elem x],[0≤i∧l[i.toNat]? = some x],⟨h,trivial⟩⟩
abbrev kSl (a b c:Int) (h:0≤a∧a≤b∧b≤c:=by omega):Itm:=kp h
abbrev kR (a b:Int) (h:0≤a∧a<b:=by omega):Itm:=kp h
abbrev kTk (n:Nat) (l:List (List AV)) (h:l.length≤n):Itm:=kp (show List.take n (List.drop 0 l)=l by rw [List.drop_zero,List.take_of_length_le h])
theorem lenS {a b:Nat} (h:a=b):Sub (int a) (int b):=.of_eq (by rw [h])
theorem ypC {P:Program} {G:Nat→Option (List AV)} {id:Nat} {args:List AV} {H:List AObj} {b:Bool} {c:Prop} [Decidable c] {X Y:List AObj} (h:YieldC P G id args H b (if c then X else Y)) (hc:c):YieldC P G id args H b X:=by rw [if_pos hc] at h; exact h
theorem ynC {P:Program} {G:Nat→Option (List AV)} {id:Nat} {args:List AV} {H:List AObj} {b:Bool} {c:Prop} [Decidable c] {X Y:List AObj} (h:YieldC P G id args H b (if c then X else Y)) (hc:¬c):YieldC P G id args H b Y:=by rw [if_neg hc] at h; exact h
def rG (l:List (Nat × Nat)):List Nat:=l.flatMap fun p=>List.range' p.1 p.2
abbrev sM (n:Nat) (l:List (Nat × AV)) (H:List AObj):St:=⟨slots n l,H,[]⟩
abbrev fnA (f:FuncId):AV:=.lit (.func (.func f) #[] #[])
section
variable {P:Program} {G:Nat→Option (List AV)}
theorem callC_of {f:FuncId} {args:List AV} {H:List AObj} {out:AOut} {H':List AObj} (l:List Itm) (h:runF P G f args H (orcsOf l)=some (out,H',propsOf l):=by kernel_rfl):CallC P G f args H out H':=callC_of_run _ h (propsAll l)
theorem callC_out {f:FuncId} {args:List AV} {H:List AObj} {x y:AV} {H':List AObj} (hs:Sub x y) (l:List Itm) (h:runF P G f args H (orcsOf l)=some (.ret x,H',propsOf l):=by kernel_rfl):CallC P G f args H (.ret y) H':=CallC.out (callC_of l h) hs
theorem loop_next {r:Option Nat} {n0:Nat} {c:Code} {s s2 s':St} {ex:AEx} (l:List Itm) (dead:List Nat) (n:Nat) (hn:RunL P G r n0 c s2 ex s') (h:loopStep P G r n0 c s (orcsOf l) dead n=some (s2,propsOf l):=by kernel_rfl):RunL P G r n0 c s ex s':=RunL.next _ _ _ h (propsAll l) hn
theorem loop_exit {r:Option Nat} {n0:Nat} {c:Code} {s s':St} {ex:AEx} (l:List Itm) (dead:List Nat) (n:Nat) (h:loopExit P G r n0 c s (orcsOf l) dead n=some (ex,s',propsOf l):=by kernel_rfl):RunL P G r n0 c s ex s':=RunL.exit _ _ _ h (propsAll l)
theorem yieldC_of {id:Nat} {args:List AV} {H:List AObj} {b:Bool} {H':List AObj} (l:Option Nat→List Itm) (h:∀ r,runY P G r id args H (orcsOf (l none))=some (b,H',propsOf (l r))):YieldC P G id args H b H':=yieldC_of_run _ h fun r=>propsAll (l r)
end
end Go.Am
