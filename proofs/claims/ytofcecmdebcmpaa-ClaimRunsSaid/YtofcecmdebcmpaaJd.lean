/- slices.Insert: what its code does (walks). -/
import Derived.Test.YtofcecmdebcmpaaLb
import Derived.WalkKit
import Derived.Shelf.RegionOpenPlain
import Derived.Lib.Overlaps
import Derived.Test.YtofcecmdebcmpaaJc
set_option linter.unusedVariables false
set_option linter.unusedSimpArgs false
namespace Go.Ideal
open Go.RowKit
def insBody (p:Nat→String) (S I B V:TypeId) (fo fr:FuncId):Code:=
 .seq (.region 0 #[⟨some 6,.assign (.const (.slice none 0 0)),S,p 0,#[],none⟩] false) <|
 .seq (.region 1 #[⟨some 10,.move (.tmp 0),S,p 1,#[],none⟩,
      ⟨some 11,.move (.tmp 1),I,p 2,#[],none⟩,
      ⟨some 12,.slice S (.tmp 10) (some (.tmp 11)) none none,S,p 3,#[⟨0,.data⟩,⟨1,.data⟩],none⟩] false) <|
 .seq (.region 2 #[⟨some 13,.move (.tmp 2),S,p 4,#[],none⟩,
      ⟨some 14,.call { callee:=.builtin Go.Builtin.len,args:=#[(.tmp 13)],argTypes:=#[S] },I,p 5,#[⟨0,.data⟩],none⟩,
      ⟨some 7,.assign (.tmp 14),I,p 6,#[⟨1,.data⟩,⟨0,.phase⟩,⟨1,.phase⟩],none⟩] false) <|
 .seq (.seq (.region 3 #[⟨some 15,.move (.tmp 7),I,p 7,#[],none⟩,
       ⟨some 16,.binOp .eql I (.tmp 15) (.const (.int .i64 (0))) I,B,p 8,#[⟨0,.data⟩],none⟩] false) <|
  .cond (.tmp 16) (.seq (.region 4 #[⟨some 17,.move (.tmp 0),S,p 9,#[],none⟩,
         ⟨some 6,.assign (.tmp 17),S,p 10,#[⟨0,.data⟩,⟨0,.phase⟩],none⟩] false) <|
   .ret) (.skip)) <|
 .seq (.region 5 #[⟨some 18,.move (.tmp 0),S,p 11,#[],none⟩,
      ⟨some 19,.call { callee:=.builtin Go.Builtin.len,args:=#[(.tmp 18)],argTypes:=#[S] },I,p 12,#[⟨0,.data⟩],none⟩,
      ⟨some 8,.assign (.tmp 19),I,p 13,#[⟨1,.data⟩,⟨0,.phase⟩,⟨1,.phase⟩],none⟩] false) <|
 .seq (.seq (.region 6 #[⟨some 20,.move (.tmp 1),I,p 14,#[],none⟩,
       ⟨some 21,.move (.tmp 8),I,p 15,#[],none⟩,
       ⟨some 22,.binOp .eql I (.tmp 20) (.tmp 21) I,B,p 16,#[⟨0,.data⟩,⟨1,.data⟩],none⟩] false) <|
  .cond (.tmp 22) (.seq (.region 7 #[⟨some 23,.move (.tmp 0),S,p 17,#[],none⟩,
         ⟨some 24,.move (.tmp 2),S,p 18,#[],none⟩,
         ⟨some 25,.call { callee:=.builtin Go.Builtin.append,args:=#[(.tmp 23),(.tmp 24)],argTypes:=#[S,S] },S,p 19,#[⟨0,.data⟩,⟨1,.data⟩],none⟩,
         ⟨some 6,.assign (.tmp 25),S,p 20,#[⟨2,.data⟩,⟨2,.chain⟩,⟨0,.phase⟩,⟨1,.phase⟩,⟨2,.phase⟩],none⟩] false) <|
   .ret) (.skip)) <|
 .seq (.seq (.region 8 #[⟨some 26,.move (.tmp 8),I,p 21,#[],none⟩,
       ⟨some 27,.move (.tmp 7),I,p 22,#[],none⟩,
       ⟨some 28,.binOp .add I (.tmp 26) (.tmp 27) I,I,p 23,#[⟨0,.data⟩,⟨1,.data⟩],none⟩,
       ⟨some 29,.move (.tmp 0),S,p 24,#[],none⟩,
       ⟨some 30,.call { callee:=.builtin Go.Builtin.cap,args:=#[(.tmp 29)],argTypes:=#[S] },I,p 25,#[⟨3,.data⟩],none⟩,
       ⟨some 31,.binOp .gtr I (.tmp 28) (.tmp 30) I,B,p 26,#[⟨2,.data⟩,⟨4,.data⟩],none⟩] false) <|
  .cond (.tmp 31) (.seq (.region 9 #[⟨some 32,.move (.tmp 0),S,p 27,#[],none⟩,
         ⟨some 33,.move (.tmp 1),I,p 28,#[],none⟩,
         ⟨some 34,.slice S (.tmp 32) none (some (.tmp 33)) none,S,p 29,#[⟨0,.data⟩,⟨1,.data⟩],none⟩,
         ⟨some 35,.move (.tmp 8),I,p 30,#[],none⟩,
         ⟨some 36,.move (.tmp 7),I,p 31,#[],none⟩,
         ⟨some 37,.binOp .add I (.tmp 35) (.tmp 36) I,I,p 32,#[⟨3,.data⟩,⟨4,.data⟩],none⟩,
         ⟨some 38,.move (.tmp 1),I,p 33,#[],none⟩,
         ⟨some 39,.binOp .sub I (.tmp 37) (.tmp 38) I,I,p 34,#[⟨5,.data⟩,⟨6,.data⟩],none⟩,
         ⟨some 40,.call { callee:=.builtin Go.Builtin.append,args:=#[(.tmp 34),(.tmp 39)],argTypes:=#[S,I] },S,p 35,#[⟨2,.data⟩,⟨7,.data⟩],none⟩,
         ⟨some 9,.assign (.tmp 40),S,p 36,#[⟨8,.data⟩,⟨8,.chain⟩,⟨0,.phase⟩,⟨1,.phase⟩,⟨2,.phase⟩,⟨3,.phase⟩,⟨4,.phase⟩,⟨5,.phase⟩,⟨6,.phase⟩,⟨7,.phase⟩,⟨8,.phase⟩],none⟩] false) <|
   .seq (.region 10 #[⟨some 41,.move (.tmp 9),S,p 37,#[],none⟩,
        ⟨some 42,.move (.tmp 1),I,p 38,#[],none⟩,
        ⟨some 43,.slice S (.tmp 41) (some (.tmp 42)) none none,S,p 39,#[⟨0,.data⟩,⟨1,.data⟩],none⟩,
        ⟨some 44,.move (.tmp 2),S,p 40,#[],none⟩,
        ⟨some 45,.call { callee:=.builtin Go.Builtin.copy,args:=#[(.tmp 43),(.tmp 44)],argTypes:=#[S,S] },I,p 41,#[⟨2,.data⟩,⟨3,.data⟩],none⟩] false) <|
   .seq (.region 11 #[⟨some 46,.move (.tmp 9),S,p 42,#[],none⟩,
        ⟨some 47,.move (.tmp 1),I,p 43,#[],none⟩,
        ⟨some 48,.move (.tmp 7),I,p 44,#[],none⟩,
        ⟨some 49,.binOp .add I (.tmp 47) (.tmp 48) I,I,p 45,#[⟨1,.data⟩,⟨2,.data⟩],none⟩,
        ⟨some 50,.slice S (.tmp 46) (some (.tmp 49)) none none,S,p 46,#[⟨0,.data⟩,⟨3,.data⟩],none⟩,
        ⟨some 51,.move (.tmp 0),S,p 47,#[],none⟩,
        ⟨some 52,.move (.tmp 1),I,p 48,#[],none⟩,
        ⟨some 53,.slice S (.tmp 51) (some (.tmp 52)) none none,S,p 49,#[⟨5,.data⟩,⟨6,.data⟩],none⟩,
        ⟨some 54,.call { callee:=.builtin Go.Builtin.copy,args:=#[(.tmp 50),(.tmp 53)],argTypes:=#[S,S] },I,p 50,#[⟨4,.data⟩,⟨7,.data⟩],none⟩] true) <|
   .seq (.region 12 #[⟨some 55,.move (.tmp 9),S,p 51,#[],none⟩,
        ⟨some 6,.assign (.tmp 55),S,p 52,#[⟨0,.data⟩,⟨0,.phase⟩],none⟩] false) <|
   .ret) (.skip)) <|
 .seq (.region 13 #[⟨some 56,.move (.tmp 0),S,p 53,#[],none⟩,
      ⟨some 57,.move (.tmp 8),I,p 54,#[],none⟩,
      ⟨some 58,.move (.tmp 7),I,p 55,#[],none⟩,
      ⟨some 59,.binOp .add I (.tmp 57) (.tmp 58) I,I,p 56,#[⟨1,.data⟩,⟨2,.data⟩],none⟩,
      ⟨some 60,.slice S (.tmp 56) none (some (.tmp 59)) none,S,p 57,#[⟨0,.data⟩,⟨3,.data⟩],none⟩,
      ⟨some 0,.assign (.tmp 60),S,p 58,#[⟨4,.data⟩,⟨0,.phase⟩,⟨1,.phase⟩,⟨2,.phase⟩,⟨3,.phase⟩,⟨4,.phase⟩],none⟩] false) <|
 .seq (.seq (.region 14 #[⟨some 61,.move (.tmp 2),S,p 59,#[],none⟩,
       ⟨some 62,.move (.tmp 0),S,p 60,#[],none⟩,
       ⟨some 63,.move (.tmp 1),I,p 61,#[],none⟩,
       ⟨some 64,.move (.tmp 7),I,p 62,#[],none⟩,
       ⟨some 65,.binOp .add I (.tmp 63) (.tmp 64) I,I,p 63,#[⟨2,.data⟩,⟨3,.data⟩],none⟩,
       ⟨some 66,.slice S (.tmp 62) (some (.tmp 65)) none none,S,p 64,#[⟨1,.data⟩,⟨4,.data⟩],none⟩,
       ⟨some 67,.call { callee:=.value (.func fo),args:=#[(.tmp 61),(.tmp 66)],argTypes:=#[S,S] },B,p 65,#[⟨0,.data⟩,⟨5,.data⟩],none⟩,
       ⟨some 68,.unOp .not B (.tmp 67),B,p 66,#[⟨6,.data⟩],none⟩] false) <|
  .cond (.tmp 68) (.seq (.region 15 #[⟨some 69,.move (.tmp 0),S,p 67,#[],none⟩,
         ⟨some 70,.move (.tmp 1),I,p 68,#[],none⟩,
         ⟨some 71,.move (.tmp 7),I,p 69,#[],none⟩,
         ⟨some 72,.binOp .add I (.tmp 70) (.tmp 71) I,I,p 70,#[⟨1,.data⟩,⟨2,.data⟩],none⟩,
         ⟨some 73,.slice S (.tmp 69) (some (.tmp 72)) none none,S,p 71,#[⟨0,.data⟩,⟨3,.data⟩],none⟩,
         ⟨some 74,.move (.tmp 0),S,p 72,#[],none⟩,
         ⟨some 75,.move (.tmp 1),I,p 73,#[],none⟩,
         ⟨some 76,.slice S (.tmp 74) (some (.tmp 75)) none none,S,p 74,#[⟨5,.data⟩,⟨6,.data⟩],none⟩,
         ⟨some 77,.call { callee:=.builtin Go.Builtin.copy,args:=#[(.tmp 73),(.tmp 76)],argTypes:=#[S,S] },I,p 75,#[⟨4,.data⟩,⟨7,.data⟩],none⟩] true) <|
   .seq (.region 16 #[⟨some 78,.move (.tmp 0),S,p 76,#[],none⟩,
        ⟨some 79,.move (.tmp 1),I,p 77,#[],none⟩,
        ⟨some 80,.slice S (.tmp 78) (some (.tmp 79)) none none,S,p 78,#[⟨0,.data⟩,⟨1,.data⟩],none⟩,
        ⟨some 81,.move (.tmp 2),S,p 79,#[],none⟩,
        ⟨some 82,.call { callee:=.builtin Go.Builtin.copy,args:=#[(.tmp 80),(.tmp 81)],argTypes:=#[S,S] },I,p 80,#[⟨2,.data⟩,⟨3,.data⟩],none⟩] false) <|
   .seq (.region 17 #[⟨some 83,.move (.tmp 0),S,p 81,#[],none⟩,
        ⟨some 6,.assign (.tmp 83),S,p 82,#[⟨0,.data⟩,⟨0,.phase⟩],none⟩] false) <|
   .ret) (.skip)) <|
 .seq (.region 18 #[⟨some 84,.move (.tmp 0),S,p 83,#[],none⟩,
      ⟨some 85,.move (.tmp 8),I,p 84,#[],none⟩,
      ⟨some 86,.slice S (.tmp 84) (some (.tmp 85)) none none,S,p 85,#[⟨0,.data⟩,⟨1,.data⟩],none⟩,
      ⟨some 87,.move (.tmp 2),S,p 86,#[],none⟩,
      ⟨some 88,.call { callee:=.builtin Go.Builtin.copy,args:=#[(.tmp 86),(.tmp 87)],argTypes:=#[S,S] },I,p 87,#[⟨2,.data⟩,⟨3,.data⟩],none⟩] false) <|
 .seq (.region 19 #[⟨some 89,.move (.tmp 0),S,p 88,#[],none⟩,
      ⟨some 90,.move (.tmp 1),I,p 89,#[],none⟩,
      ⟨some 91,.slice S (.tmp 89) (some (.tmp 90)) none none,S,p 90,#[⟨0,.data⟩,⟨1,.data⟩],none⟩,
      ⟨some 92,.move (.tmp 7),I,p 91,#[],none⟩,
      ⟨some 93,.call { callee:=.value (.func fr),args:=#[(.tmp 91),(.tmp 92)],argTypes:=#[S,I] },V,p 92,#[⟨2,.data⟩,⟨3,.data⟩],none⟩] false) <|
 .seq (.region 20 #[⟨some 94,.move (.tmp 0),S,p 93,#[],none⟩,
      ⟨some 6,.assign (.tmp 94),S,p 94,#[⟨0,.data⟩,⟨0,.phase⟩],none⟩] false) <|
 .ret
variable {P:Program}
theorem wpL_app {ops:Array Oper} {rest:List Oper} {o:Oper} {a:Act} {w:World} {Q:Exit→Act→World→Prop} (hg:o.guard=none) (d s:Operand) (t t':TypeId)
 (ho:o.op = .call { callee:=.builtin .append,args:=#[d,s],argTypes:=#[t,t'] }) (v u:Value) (hd:a.eval d=v) (hs:a.eval s=u) {v':Value} {w':World}
 (hr:(Builtin.append_ #[t,t'] o.type #[v,u]).run P w = .ok v' w') (h:wpList P ops Q rest (a.put o.dst v') w'):wpList P ops Q (o::rest) a w:=
 wpList_plain hg fun K hK=>by
  unfold Oper.wp execOp
  simp only[ho,resolve,invoke,Go.builtin,Sem.run_bind,Sem.run_pure,Result.andThen_ok,List.map_toArray,List.map_cons,List.map_nil,hd,hs,hr]
  exact hK _ _ h
theorem wpL_cpy {ops:Array Oper} {rest:List Oper} {o:Oper} {a:Act} {w:World} {Q:Exit→Act→World→Prop} (hg:o.guard=none) (d s:Operand) (t t':TypeId)
 (ho:o.op = .call { callee:=.builtin .copy,args:=#[d,s],argTypes:=#[t,t'] }) (v u:Value) (hd:a.eval d=v) (hs:a.eval s=u) {v':Value} {w':World}
 (hr:(Builtin.copy_ #[t,t'] o.type #[v,u]).run P w = .ok v' w') (h:wpList P ops Q rest (a.put o.dst v') w'):wpList P ops Q (o::rest) a w:=
 wpList_plain hg fun K hK=>by
  unfold Oper.wp execOp
  simp only[ho,resolve,invoke,Go.builtin,Sem.run_bind,Sem.run_pure,Result.andThen_ok,List.map_toArray,List.map_cons,List.map_nil,hd,hs,hr]
  exact hK _ _ h
theorem stp_cpy {ops:Array Oper} {o:Oper} {a:Act} {w:World} {K:Act→World→Prop} {Q:Exit→Act→World→Prop} {E:Prop}
 (hg:o.guard=none) (d x:Operand) (dT sT:TypeId) (hop:o.op=Op.call { callee:=Callee.builtin Builtin.copy,args:=#[d,x],argTypes:=#[dT,sT] })
 (v u:Value) (hd:a.eval d=v) (hx:a.eval x=u) {v':Value} {w':World} (hr:(Builtin.copy_ #[dT,sT] o.type #[v,u]).run P w = .ok v' w') (hK:K (a.put o.dst v') w'):
 if Region.wanted o (yielded ops a.tmps)=true then Oper.wp P o a w K Q else E:=by
 have hw:Region.wanted o (yielded ops a.tmps)=true:=by simp[Region.wanted,hg]
 rw[if_pos hw]
 unfold Oper.wp
 simp[execOp,hop,resolve,invoke,Go.builtin,hd,hx,hr,Result.andThen]
 exact hK
structure InsOf (P:Program) (f:FuncId) (S E sz:Nat) where
 p:Nat→String
 I:Nat
 B:Nat
 V:Nat
 fo:FuncId
 fr:FuncId
 fn:Func
 hf:P.funcs[f]? = some fn
 hb:fn.body=some (insBody p S I B V fo fr)
 hn:fn.ntmps=95
 hr:fn.results = #[.tmp 6]
 hS:P.underlying S=some (.slice E)
 hI:P.underlying I=some (.int .i64)
 hB:P.underlying B=some .bool
 hE:∀w,(Go.sizeOf E).run P w = .ok sz w
 mixed:P.follows .mixedOrders=true
set_option maxHeartbeats 4000000
set_option maxRecDepth 100000
section
variable {f:FuncId} {S E sz:Nat}
theorem ins_end (L:InsOf P f S E sz) {base vb:Option Addr} {n c m vc:Nat} {w w':World} {r:Value} (hm:0<m) (hnc:n≤c) (hn63:n<9223372036854775807) (hnil:base=none→c=0)
 (hap:∀ty,(Builtin.append_ #[S,S] ty #[.slice base n c,.slice vb m vc]).run P w = .ok r w'):
 Calls P f #[.slice base n c,.int .i64 n,.slice vb m vc] w fun e w1=>e = .returned r∧w1=w':=by
 obtain⟨p,I,B,V,fo,fr,fn,hf,hb,hn,hr,hS,hI,hB,hE,mixed⟩:=L
 have uS:=run_underlying hS;have uI:=run_underlying hI;have uB:=run_underlying hB
 have hz1:¬((m:Int)=0):=by omega
 have hf':P.funcs[f]? = some { fn with body:=some (insBody p S I B V fo fr),ntmps:=95,results:=#[.tmp 6] }:=by rw[hf,←hb,←hn,←hr]
 clear hf hb hn hr
 have hnn:base=none→n=0:=fun h=>by have:=hnil h;omega
 refine calls_of_wp hf' rfl ?_
 clear hf'
 simp only[List.size_toArray,List.length_cons,List.length_nil,Nat.reduceAdd,Nat.reduceSub,Array.replicate_succ,
  Array.replicate_zero,List.push_toArray,List.append_toArray,List.nil_append,List.cons_append]
 unfold insBody
 cases base with
 |none=>
  have h0:=hnil rfl
  have h1:=hnn rfl
  subst h0;subst h1
  go_wp2_with (at_builtin;refine wpL_app rfl _ _ _ _ rfl _ _ rfl rfl (hap _) ?_)
  all_goals (go_ret;exact⟨rfl,rfl⟩)
 |some a=>
  obtain⟨ab,ao,asp⟩:=a
  go_wp2_with (at_builtin;refine wpL_app rfl _ _ _ _ rfl _ _ rfl rfl (hap _) ?_)
  all_goals (go_ret;exact⟨rfl,rfl⟩)
theorem ins_grow (L:InsOf P f S E sz) {a a2:Addr} {vb:Option Addr} {n c c2 i m vc:Nat} {w w1 w2 w3:World} {r2 r3:Value} (hi:i<n) (hm:0<m) (hnc:n≤c) (hroom:c<n+m) (hc2:n+m≤c2) (h63:n+m<9223372036854775807)
 (hz:∀ty,(Builtin.append_ #[S,L.I] ty #[.slice (some a) i c,.int .i64 ((n:Int)+(m:Int)-(i:Int))]).run P w = .ok (.slice (some a2) (n+m) c2) w1)
 (hA:∀ty,(Builtin.copy_ #[S,S] ty #[.slice (some (a2.add (i*sz))) (n+m-i) (c2-i),.slice vb m vc]).run P w1 = .ok r2 w2)
 (hB:∀ty,(Builtin.copy_ #[S,S] ty #[.slice (some (a2.add ((i+m)*sz))) (n+m-(i+m)) (c2-(i+m)),.slice (some (a.add (i*sz))) (n-i) (c-i)]).run P w2.drew = .ok r3 w3):
 Calls P f #[.slice (some a) n c,.int .i64 i,.slice vb m vc] w fun e w'=>e = .returned (.slice (some a2) (n+m) c2)∧w'=w3:=by
 obtain⟨p,I,B,V,fo,fr,fn,hf,hb,hn,hr,hS,hI,hB',hE,mixed⟩:=L
 have uS:=run_underlying hS;have uI:=run_underlying hI;have uB:=run_underlying hB'
 have hz1:¬((m:Int)=0):=by omega
 have hz2:¬((i:Int)=(n:Int)):=by omega
 have hz3:(c:Int)<(n:Int)+(m:Int):=by omega
 have hf':P.funcs[f]? = some { fn with body:=some (insBody p S I B V fo fr),ntmps:=95,results:=#[.tmp 6] }:=by rw[hf,←hb,←hn,←hr]
 dsimp only at hz
 clear hf hb hn hr
 have hw1:IntKind.i64.wrap ((i:Int)+(m:Int))=(i:Int)+(m:Int):=by rw[IntKind.wrap_i64];omega
 have hb1:(0:Int)≤(i:Int)+(m:Int):=by omega
 have hin:i≤n:=by omega
 have htn:((i:Int)+(m:Int)).toNat=i+m:=by omega
 have hGi:¬(c2=i):=by omega
 have hGim:¬(c2=i+m):=by omega
 have hci:¬(c=i):=by omega
 have hb3:(i:Int)≤(n:Int):=by omega
 refine calls_of_wp hf' rfl ?_
 clear hf'
 simp only[List.size_toArray,List.length_cons,List.length_nil,Nat.reduceAdd,Nat.reduceSub,Array.replicate_succ,
  Array.replicate_zero,List.push_toArray,List.append_toArray,List.nil_append,List.cons_append]
 unfold insBody
 obtain⟨ab,ao,asp⟩:=a
 obtain⟨ab2,ao2,asp2⟩:=a2
 go_wp2_with (first
  |(at_builtin;refine wpL_app rfl _ _ _ _ rfl _ _ rfl rfl (hz _) ?_)
  |(at_builtin;refine wpL_cpy rfl _ _ _ _ rfl _ _ rfl rfl (hA _) ?_))
 go_region_law_o (refine stp_cpy rfl _ _ S S rfl _ _ (by simp[Act.eval,Act.put]) (by simp[Act.eval,Act.put]) (hB _) ?_)
 go_wp2
 go_ret
 exact⟨rfl,rfl⟩
theorem ins_shift (L:InsOf P f S E sz) {a:Addr} {vb:Option Addr} {n c i m vc:Nat} {w w2 w3:World} {r2 r3:Value} (hi:i<n) (hm:0<m) (hroom:n+m≤c) (h63:n+m<9223372036854775807)
 (hov:∀lb cb,(callFunc L.fo #[.slice vb m vc,.slice (some (a.add ((i+m)*sz))) lb cb]).run P w = .ok (.value (.bool false)) w)
 (hA:∀ty dc sc,(Builtin.copy_ #[S,S] ty #[.slice (some (a.add ((i+m)*sz))) (n+m-(i+m)) dc,.slice (some (a.add (i*sz))) (n+m-i) sc]).run P w.drew = .ok r2 w2)
 (hB:∀ty dc,(Builtin.copy_ #[S,S] ty #[.slice (some (a.add (i*sz))) (n+m-i) dc,.slice vb m vc]).run P w2 = .ok r3 w3):
 Calls P f #[.slice (some a) n c,.int .i64 i,.slice vb m vc] w fun e w'=>e = .returned (.slice (some a) (n+m) c)∧w'=w3:=by
 obtain⟨p,I,B,V,fo,fr,fn,hf,hb,hn,hr,hS,hI,hB',hE,mixed⟩:=L
 have uS:=run_underlying hS;have uI:=run_underlying hI;have uB:=run_underlying hB'
 have hz1:¬((m:Int)=0):=by omega
 have hz2:¬((i:Int)=(n:Int)):=by omega
 have hf':P.funcs[f]? = some { fn with body:=some (insBody p S I B V fo fr),ntmps:=95,results:=#[.tmp 6] }:=by rw[hf,←hb,←hn,←hr]
 dsimp only at hov
 clear hf hb hn hr
 have hw1:IntKind.i64.wrap ((i:Int)+(m:Int))=(i:Int)+(m:Int):=by rw[IntKind.wrap_i64];omega
 have hb1:(0:Int)≤(i:Int)+(m:Int):=by omega
 have hin:i≤n:=by omega
 have htn:((i:Int)+(m:Int)).toNat=i+m:=by omega
 have hb2:¬(c=i+m):=by omega
 have hb3:(i:Int)≤(n:Int)+(m:Int):=by omega
 have hb4:¬(c=i):=by omega
 refine calls_of_wp hf' rfl ?_
 clear hf'
 simp only[List.size_toArray,List.length_cons,List.length_nil,Nat.reduceAdd,Nat.reduceSub,Array.replicate_succ,
  Array.replicate_zero,List.push_toArray,List.append_toArray,List.nil_append,List.cons_append]
 unfold insBody
 obtain⟨ab,ao,asp⟩:=a
 go_wp2_with (simp only[hov])
 go_region_law_o (refine stp_cpy rfl _ _ S S rfl _ _ (by simp[Act.eval,Act.put]) (by simp[Act.eval,Act.put]) (hA _ _ _) ?_)
 go_wp2_with (at_builtin;refine wpL_cpy rfl _ _ _ _ rfl _ _ rfl rfl (hB _ _) ?_)
 go_ret
 exact⟨rfl,rfl⟩
end
end Go.Ideal
set_option linter.unusedVariables false
set_option linter.unusedSimpArgs false
namespace Go.Ideal
variable {P:Program}
theorem ERel_ins {K:Kx} {H:Mem} {h:Heap} {sz:Nat} {es vs:List (List IV)} {i s:Nat} {CSx CS3:Array Value} {vc dc:List Value}
 (hi:i≤es.length) (he:∀e∈es,e.length=sz∧∀c∈e,c.one=true) (hv:∀e∈vs,e.length=sz∧∀c∈e,c.one=true)
 (hsz:CS3.size=CSx.size) (hl:s+(es.length+vs.length)*sz≤CSx.size)
 (hA:∀(t j:Nat) (e:List IV) (c:IV),t<i→es[t]? = some e→e[j]? = some c→∃v,CSx[s+t*sz+j]? = some v∧VRel K H h c v)
 (hV:LRel K H h vs.flatten vc) (hD:LRel K H h (es.drop i).flatten dc)
 (hg:∀x,CS3[x]? = if s+i*sz≤x∧x<s+i*sz+vc.length then vc[x-(s+i*sz)]? else if s+(i+vs.length)*sz≤x∧x<s+(i+vs.length)*sz+dc.length then dc[x-(s+(i+vs.length)*sz)]? else CSx[x]?):
 ERel K H h sz (es.take i++vs++es.drop i) CS3 s:=by
 have hvs:∀e∈vs,e.length=sz:=fun e h=>(hv e h).1
 have hds:∀e∈es.drop i,e.length=sz:=fun e h=>(he e (List.mem_of_mem_drop h)).1
 obtain⟨v1,v2⟩:=flatten_get hvs
 obtain⟨d1,d2⟩:=flatten_get hds
 have vl:vc.length=vs.length*sz:=by rw[hV.1,v1]
 have dl:dc.length=(es.length-i)*sz:=by rw[hD.1,d1,List.length_drop]
 have hti:(es.take i).length=i:=by simp;omega
 refine⟨fun e hm=>?_,?_,fun t j e c h1 h2=>?_⟩
 ·simp only[List.mem_append]at hm
  rcases hm with (hm|hm)|hm
  ·exact he e (List.mem_of_mem_take hm)
  ·exact hv e hm
  ·exact he e (List.mem_of_mem_drop hm)
 ·have:(es.take i++vs++es.drop i).length=es.length+vs.length:=by simp;omega
  rw[this,hsz];exact hl
 ·have hlen:e.length=sz:=by
   have hm:=List.mem_of_getElem? h1
   simp only[List.mem_append]at hm
   rcases hm with (hm|hm)|hm
   ·exact(he e (List.mem_of_mem_take hm)).1
   ·exact(hv e hm).1
   ·exact(he e (List.mem_of_mem_drop hm)).1
  have hj:j<sz:=by rw[←hlen];exact(List.getElem?_eq_some_iff.1 h2).1
  rw[hg]
  by_cases c1:t<i
  ·have e1:es[t]? = some e:=by
    rw[List.append_assoc,List.getElem?_append_left (by omega),List.getElem?_take,if_pos c1]at h1;exact h1
   have m1:(t+1)*sz≤i*sz:=Nat.mul_le_mul_right _ (by omega)
   have m2:i*sz≤(i+vs.length)*sz:=Nat.mul_le_mul_right _ (by omega)
   rw[Nat.succ_mul]at m1
   rw[if_neg (by omega),if_neg (by omega)]
   exact hA t j e c c1 e1 h2
  ·by_cases c2:t<i+vs.length
   ·have e1:vs[t-i]? = some e:=by
     rw[List.append_assoc,List.getElem?_append_right (by omega),hti,List.getElem?_append_left (by omega)]at h1;exact h1
    have e2:=v2 (t-i) j e c e1 h2
    obtain⟨v,e3,e4⟩:=hV.get e2
    have m1:(t-i)*sz+i*sz=t*sz:=by rw[←Nat.add_mul];congr 1;omega
    have m2:(t-i+1)*sz≤vs.length*sz:=Nat.mul_le_mul_right _ (by omega)
    rw[Nat.succ_mul]at m2
    rw[if_pos (by omega)]
    exact⟨v,by rw[←e3];congr 1;omega,e4⟩
   ·have e1:(es.drop i)[t-i-vs.length]? = some e:=by
     rw[List.append_assoc,List.getElem?_append_right (by omega),hti,List.getElem?_append_right (by omega)]at h1;exact h1
    have e2:=d2 (t-i-vs.length) j e c e1 h2
    obtain⟨v,e3,e4⟩:=hD.get e2
    have e5:t-i-vs.length<es.length-i:=by have:=(List.getElem?_eq_some_iff.1 e1).1;simpa using this
    have m1:(t-i-vs.length)*sz+(i+vs.length)*sz=t*sz:=by rw[←Nat.add_mul];congr 1;omega
    have m2:(t-i-vs.length+1)*sz≤(es.length-i)*sz:=Nat.mul_le_mul_right _ (by omega)
    have m3:(i+vs.length)*sz=i*sz+vs.length*sz:=Nat.add_mul _ _ _
    rw[Nat.succ_mul]at m2
    rw[if_neg (by omega),if_pos (by omega)]
    exact⟨v,by rw[←e3];congr 1;omega,e4⟩
theorem run_appz {S I E sz bytes:Nat} {z:Value} (w:World) (hS:P.underlying S=some (.slice E)) (hI:P.underlying I=some (.int .i64)) (hsz:Siz P E sz) (hp:0<sz) (hb:(P.info? E).map (·.bytes)=some bytes) (hz:(P.info? E).bind (·.zero)=some z)
 {a:Addr} {i c k:Nat} (hk:0<k) (hgt:c<i+k) (hbytes:(i+k)*(bytes+1)≤17592186044416) {old:List Value} (hold:∀w3:World,w3.heap=w.heap→(Builtin.firstCells sz i (.slice (some a) i c)).run P w3 = .ok old.toArray w3) (ty:TypeId):
 ∃c2 w1,i+k≤c2∧(Builtin.append_ #[S,I] ty #[.slice (some a) i c,.int .i64 (k:Int)]).run P w = .ok (.slice (some ⟨w.heap.size,0,none⟩) (i+k) c2) w1∧
  w1.heap=w.heap.push (.cells (old.toArray++Builtin.zeroCells z.cells k++Builtin.zeroCells z.cells (c2-(i+k))) E)∧((w1.os,w1.tape),w1.output)=((w.os,w.tape),w.output):=by
 obtain⟨inf,hi,hib⟩:=run_bytes (P:=P) (w:=w) hb
 have hb1:i+k≤17592186044416:=Nat.le_trans (Nat.le_mul_of_pos_right _ (by omega)) hbytes
 have hb2:(i+k)*bytes≤17592186044416:=Nat.le_trans (Nat.mul_le_mul_left _ (by omega)) hbytes
 have hnext:=nextslicecap_le hgt
 have hnb:¬(Builtin.nextslicecap (i+k) c*inf.bytes>2^48):=by
  rw[hib]
  have:=Nat.mul_le_mul_right bytes hnext
  rw[Nat.mul_assoc]at this
  omega
 have hti:∀w3:World,(typeInfo E).run P w3 = .ok inf w3:=by
  intro w3
  cases hii:P.info? E with
  |none=>simp[hii]at hb
  |some j=>
   have:(typeInfo E).run P w = .ok j w:=by simp[typeInfo,hii]
   rw[hi]at this;injection this with this;subst this
   simp[typeInfo,hii]
 have hkb:k*bytes≤17592186044416:=Nat.le_trans (Nat.mul_le_mul_right _ (by omega)) hb2
 have hle:¬(i+k≤c):=by omega
 have q1:=hold w.drew rfl
 have hf:(Question.appendCap (i+k) c E).forced=false:=rfl
 have hmax':¬((9223372036854775807:Int)<(i:Int)+(k:Int)):=by omega
 have hw:IntKind.i64.wrap (k:Int)=(k:Int):=by rw[IntKind.wrap_i64];omega
 have hks:¬(k*sz=0):=by have:=Nat.mul_pos hk hp;omega
 have hk0:¬(k=0):=by omega
 have hp0:¬(sz=0):=by omega
 refine⟨(Question.appendCap (i+k) c E).cut (w.tape w.drawn (.appendCap (i+k) c E)),{ w.drew with heap:=w.heap.push (.cells (old.toArray++Builtin.zeroCells z.cells k++Builtin.zeroCells z.cells ((Question.appendCap (i+k) c E).cut (w.tape w.drawn (.appendCap (i+k) c E))-(i+k))) E) },by simp only[Question.cut];omega,?_,rfl,rfl⟩
 have hkb':¬((281474976710656:Int)<(k:Int)*(inf.bytes:Int)):=by
  rw[hib]
  have:((k*bytes:Nat):Int)≤17592186044416:=by omega
  rw[Int.natCast_mul]at this;omega
 simp only[Builtin.append_]
 have hai:(asInt (.int .i64 (k:Int))).run P w = .ok (k:Int) w:=rfl
 have hneg:¬((k:Int)<0):=by omega
 simp[run_underlying hS,run_siz hsz,run_underlying hI,hai,hw,hti,hkb',hle,hnb,hmax',hk0,hp0,hneg]
 have hmx:¬((9223372036854775807:Int)<(i:Int)+max (k:Int) 0):=by omega
 rw[if_neg (by rw[hf];simp),q1]
 simp only[Result.andThen_ok,run_zero hz,newRow,newObj,Sem.run_bind,Sem.run,Sem.run_pure]
 rw[if_neg hks]
 simp[show w.drew.heap=w.heap from rfl]
theorem run_cpy {S E sz:Nat} {w:World} (hS:P.underlying S=some (.slice E)) (hsz:Siz P E sz) {B o zz:Nat} {CS:Array Value} {el:TypeId} {fr:Nat×Nat} (hH:w.heap[B]? = some (.cells CS el fr)) (hf:free zz CS fr)
 {vs:List Value} (h1:∀v∈vs,v.oneCell'=true) (ho:o+vs.length≤CS.size) {dl n:Nat} {src:Value} (hlen:(Builtin.lenOf src).run P w = .ok n w) (hfc:(Builtin.firstCells sz (min n dl) src).run P w = .ok vs.toArray w):
 ∃w',(∀ty dc,(Builtin.copy_ #[S,S] ty #[.slice (some ⟨B,o,none⟩) dl dc,src]).run P w = .ok (.int .i64 (min n dl:Nat)) w')∧w'.heap=putRow w.heap B (aput CS o vs) el fr∧((w'.os,w'.tape),w'.output)=((w.os,w.tape),w.output):=by
 obtain⟨w',h2,h3,h4⟩:=run_stores P B o el fr vs 0 CS w hH hf (by omega) h1
 refine⟨w',fun ty dc=>?_,by simpa using h3,h4⟩
 have hmin:n.min dl=min n dl:=rfl
 simp[Builtin.copy_,run_underlying hS,hlen,run_siz hsz,hmin,hfc,goInt,h2]
theorem bi_app {ts:Array TypeId} {ty:TypeId} {bs:Array Bool} {args:Array Value} {w w':World} {v:Value} (h:(Go.builtin .append ts ty bs args).run P w = .ok (.value v) w'):(Builtin.append_ ts ty args).run P w = .ok v w':=by
 simp only[Go.builtin,Sem.run_bind,Sem.run_pure]at h
 cases hr:(Builtin.append_ ts ty args).run P w with
 |ok u w2=>rw[hr]at h;simpa using h
 |halt e w2=>rw[hr]at h;simp at h
theorem run_app2 {S E sz bytes:Nat} {z:Value} {w:World} (hS:P.underlying S=some (.slice E)) (hsz:Siz P E sz) (hb:(P.info? E).map (·.bytes)=some bytes) (hz:(P.info? E).bind (·.zero)=some z)
 {base:Option Addr} {len cap n:Nat} {v:Value} (hl:(Builtin.lenOf v).run P w = .ok n w) {new:List Value} (hn:∀w3:World,w3.heap=w.heap→(Builtin.firstCells sz n v).run P w3 = .ok new.toArray w3):
 (len+n≤cap→∀w1,(∀a,base=some a→(storeCells (a.add (len*sz)) new).run P w = .ok () w1)→(base=none→w1=w)→∀ty,(Builtin.append_ #[S,S] ty #[.slice base len cap,v]).run P w = .ok (.slice base (len+n) cap) w1)∧
 (cap<len+n→(len+n)*(bytes+1)≤17592186044416→∀old:List Value,(∀w3:World,w3.heap=w.heap→(Builtin.firstCells sz len (.slice base len cap)).run P w3 = .ok old.toArray w3)→
   ∃cap' w1,len+n≤cap'∧(∀ty,(Builtin.append_ #[S,S] ty #[.slice base len cap,v]).run P w = .ok (.slice (some ⟨w.heap.size,0,none⟩) (len+n) cap') w1)∧
    w1.heap=w.heap.push (.cells ((old++new).toArray++Builtin.zeroCells z.cells (cap'-(len+n))) E)∧((w1.os,w1.tape),w1.output)=((w.os,w.tape),w.output)):=by
 have key := run_append (P := P) (w := w) (o := ⟨none, .call ⟨.builtin .append, #[.const (.slice base len cap), .const v], #[S, S]⟩, 0, "", #[], none⟩) (ac := ⟨#[], []⟩) (c := ⟨.builtin .append, #[.const (.slice base len cap), .const v], #[S, S]⟩)
  (x:=.const (.slice base len cap)) (y:=.const v) rfl rfl rfl rfl ⟨hS,hsz⟩ hb ⟨_,hS,fun k h=>by cases h⟩ hz (base:=base) (len:=len) (cap:=cap) (n:=n) rfl hl hn
 have conv : ∀ {r : Value} {w1 : World}, (execOp (Act.eval ⟨#[], []⟩) ⟨none, .call ⟨.builtin .append, #[.const (.slice base len cap), .const v], #[S, S]⟩, 0, "", #[], none⟩).run P w = .ok (.value r) w1 → ∀ ty, (Builtin.append_ #[S, S] ty #[.slice base len cap, v]).run P w = .ok r w1 := fun {r w1} h ty => by
  rw[call_run rfl rfl]at h
  have h':(Go.builtin .append #[S,S] 0 #[true,true] #[.slice base len cap,v]).run P w = .ok (.value r) w1:=by simpa [Act.eval]using h
  exact bi_app (ty:=ty) (bs:=#[true,true]) h'
 refine⟨fun h w1 h1 h2=>conv (key.1 h w1 h1 h2),fun h h1 old h2=>?_⟩
 obtain⟨cap',w1,q1,q2,q3,q4⟩:=key.2 h h1 old h2
 exact⟨cap',w1,q1,conv q2,q3,q4⟩
theorem good_nil {K:Kx} {h:Heap} {H:Mem} (iv:Inv K h H):Good K h H [] #[]:=
 ⟨iv,⟨fun t v e=>(by cases e),fun t cs e=>(by cases e),fun t s o e=>(by cases e),fun t t' cs cs' B e=>(by cases e)⟩⟩
theorem step_nil {K K1:Kx} {h h1:Heap} {H H1:Mem} (S:Step K h H [] #[] K1 h1 H1 []):Ext K h H (own K h) K1 h1 H1 (own K1 h1)∧Inv K1 h1 H1:=by
 obtain⟨E,G⟩:=S
 have hm:∀{K:Kx} {h:Heap} {B:Nat},mine K h [] #[] B→own K h B:=fun hh=>by
  rcases hh with hh|⟨t,cs,e,_⟩
  ·exact hh
  ·cases e
 exact⟨⟨E.len,E.gen,E.st,E.st',E.size,fun B hB h=>E.fr B hB fun hh=>h (hm hh),fun B hB h=>hm (E.mn B hB (.inl h))⟩,G.inv⟩
theorem ERel.cells {K:Kx} {H:Mem} {h:Heap} {sz:Nat} {es:List (List IV)} {CS:Array Value} {s:Nat} (hp:0<sz) (r:ERel K H h sz es CS s):
 ∃vs:List Value,LRel K H h es.flatten vs∧vs.length=es.length*sz∧∀j v,vs[j]? = some v→CS[s+j]? = some v:=by
 obtain⟨f1,f2⟩:=flatten_get fun e he=>(r.1 e he).1
 have hl:((CS.toList.drop s).take (es.length*sz)).length=es.length*sz:=by
  have:=r.2.1
  simp;omega
 have hget:∀j,j<es.length*sz→((CS.toList.drop s).take (es.length*sz))[j]? = CS[s+j]?:=fun j hj=>by
  rw[List.getElem?_take,if_pos hj,List.getElem?_drop];simp
 refine⟨_,.mk' (by rw[hl,f1]) fun x c hc=>?_,hl,fun j v hv=>?_⟩
 ·have hx:x<es.length*sz:=by rw[←f1];exact(List.getElem?_eq_some_iff.1 hc).1
  have hm1:x%sz<sz:=Nat.mod_lt _ hp
  have hd:x/sz<es.length:=by rw[Nat.div_lt_iff_lt_mul hp];exact hx
  have e1:es[x/sz]? = some (es[x/sz]'hd):=List.getElem?_eq_getElem hd
  have e2:(es[x/sz]'hd)[x%sz]? = some ((es[x/sz]'hd)[x%sz]'(by rw[(r.1 _ (List.getElem_mem _)).1];exact hm1)):=List.getElem?_eq_getElem _
  have e3:=f2 _ _ _ _ e1 e2
  have e4:x/sz*sz+x%sz=x:=by rw[Nat.mul_comm];exact Nat.div_add_mod x sz
  rw[e4,hc]at e3
  injection e3 with e3
  obtain⟨v,h1,h2⟩:=r.2.2 _ _ _ _ e1 e2
  refine⟨v,?_,by rw[e3];exact h2⟩
  rw[hget x hx,←h1];congr 1;omega
 ·have hj:j<es.length*sz:=by rw[←hl];exact(List.getElem?_eq_some_iff.1 hv).1
  rw[←hget j hj];exact hv
theorem ERel.take {K:Kx} {H:Mem} {h:Heap} {sz:Nat} {es:List (List IV)} {CS:Array Value} {s:Nat} (r:ERel K H h sz es CS s) {i:Nat} (hi:i≤es.length):ERel K H h sz (es.take i) CS s:=
 ⟨fun e he=>r.1 e (List.mem_of_mem_take he),by
   have h1:i*sz≤es.length*sz:=Nat.mul_le_mul_right _ hi
   have:=r.2.1
   rw[show (es.take i).length=i by simp;omega];omega,fun t j e c h1 h2=>by
   rw[List.getElem?_take]at h1
   split at h1
   ·exact r.2.2 t j e c h1 h2
   ·cases h1⟩
theorem ERel.drop {K:Kx} {H:Mem} {h:Heap} {sz:Nat} {es:List (List IV)} {CS:Array Value} {s:Nat} (r:ERel K H h sz es CS s) {i:Nat} (hi:i≤es.length):ERel K H h sz (es.drop i) CS (s+i*sz):=
 ⟨fun e he=>r.1 e (List.mem_of_mem_drop he),by
   have h1:i*sz+(es.length-i)*sz=es.length*sz:=by rw[←Nat.add_mul];congr 1;omega
   have:=r.2.1
   rw[List.length_drop];omega,fun t j e c h1 h2=>by
   rw[List.getElem?_drop]at h1
   obtain⟨v,h3,h4⟩:=r.2.2 _ j e c h1 h2
   refine⟨v,?_,h4⟩
   rw[←h3,Nat.add_mul];congr 1;omega⟩
theorem run_fc {w:World} {B o m sz len cap:Nat} {CS:Array Value} {el:TypeId} {fr:Nat×Nat} (hH:w.heap[B]? = some (.cells CS el fr)) {vs:List Value} (hv:∀j v,vs[j]? = some v→CS[o+j]? = some v) (hn:vs.length=m*sz):
 (Builtin.firstCells sz m (.slice (some ⟨B,o,none⟩) len cap)).run P w = .ok vs.toArray w:=by
 simp only[Builtin.firstCells]
 exact run_loads (a:=⟨B,o,none⟩) (fun j v h=>by simp only[cel,hH];exact hv j v h) rfl hn
theorem add_lit (B o d:Nat):(⟨B,o,none⟩:Addr).add d=⟨B,o+d,none⟩:=by unfold Addr.add;split<;>simp_all
theorem put_at {H:Mem} {B:Nat} {CS:Array Value} {el:TypeId} {fr:Nat×Nat} (h:B<H.size):(putRow H B CS el fr)[B]? = some (.cells CS el fr):=by
 simp only[putRow];rw[Array.getElem?_setIfInBounds,if_pos rfl,if_pos h]
theorem put_ne {H:Mem} {B B':Nat} {CS:Array Value} {el:TypeId} {fr:Nat×Nat} (h:B'≠B):(putRow H B CS el fr)[B']? = H[B']?:=by
 simp only[putRow];rw[Array.getElem?_setIfInBounds,if_neg (Ne.symm h)]
theorem put_size {H:Mem} {B:Nat} {CS:Array Value} {el:TypeId} {fr:Nat×Nat}:(putRow H B CS el fr).size=H.size:=by simp[putRow]
structure InsOk (P:Program) (f:FuncId) (S E sz bytes:Nat) where
 L:InsOf P f S E sz
 siz:Siz P E sz
 hb:(P.info? E).map (·.bytes)=some bytes
 z:Value
 hz:(P.info? E).bind (·.zero)=some z
 hzs:z.cells.size=sz
 hov:∀args w,(callFunc L.fo args).run P w=((Extern.SlicesOverlaps.overlaps #[S,S] #[L.B] args).run P w).andThen fun v w'=>.ok (.value v) w'
 fns:Fns P f
theorem zeroCells_length (z:Array Value) (n:Nat):(Builtin.zeroCells z n).size=n*z.size:=zeroCells_size z n
theorem prim_ins {f:FuncId} {S E sz bytes:Nat} (A:InsOk P f S E sz bytes):PrimOk P f (.ins sz bytes):=by
 refine⟨A.fns,fun args h r e K w args' iv hl=>?_⟩
 have hS:=A.L.hS
 have g:=good_nil iv
 have e16:most=17592186044416:=rfl
 match args,hl,e with
 |[s,.int .i64 i',v],hl,e=>
  obtain⟨xs,l1,h1,rs,hl1⟩:=hl.cons_inv
  obtain⟨xi,l2,rfl,ri,hl2⟩:=hl1.cons_inv
  obtain⟨xv,l3,rfl,rv,hl3⟩:=hl2.cons_inv
  rw[hl3.nil_inv]at h1
  rw[ri.int_inv]at h1
  have ha:args' = #[xs,.int .i64 i',xv]:=by rw[←Array.toArray_toList (xs:=args'),h1]
  subst ha
  clear hl hl1 hl2 hl3
  simp only[primEv,bind_some']at e
  obtain⟨i,hi,vs,hvs,e⟩:=e
  simp only[asNat]at hi
  split at hi
  case isFalse=>cases hi
  rename_i hi0
  injection hi with hi
  have hi':i'=(i:Int):=by omega
  subst hi'
  split at e
  case isFalse=>cases e
  rename_i hsz
  obtain⟨hsz1,hvl⟩:=hsz
  have hp:0<sz:=by omega
  obtain⟨f1,f2,f3⟩:=elems_rel (P:=P) (ac:=⟨#[],[]⟩) g rv hvs
  obtain⟨vc,v1,v2⟩:=f3 vs.length (Nat.le_refl _)
  rw[List.take_length]at v2
  have hzs:=A.hzs
  obtain⟨fl1,fl2⟩:=flatten_get fun e he=>(f1 e he).1
  have vl:vc.length=vs.length*sz:=by rw[v2.1,fl1]
  have hone:∀c∈vs.flatten,c.one=true:=fun c hc=>by
   obtain⟨e,e1,e2⟩:=List.mem_flatten.1 hc
   exact(f1 e e1).2 c e2
  have vone:=v2.one hone
  have hvx:∀a n c,xv = .slice a n c→n=vs.length:=by
   rintro a n c rfl
   simpa [Builtin.lenOf]using f2
  have fresh:∀(base:Option Addr),xs = .slice base 0 0→(∃a c,xv = .slice a vs.length c)→i=0→vs.length*(bytes+1)≤most→r=(.sl h.length vs.length 0 vs.length vs.length,h++[some ⟨sz,vs⟩])→
   Calls P f #[xs,.int .i64 i,xv] w fun e w'=>∃v K1,e = .returned v∧((w'.os,w'.tape),w'.output)=((w.os,w.tape),w.output)∧Ext K h w.heap (own K h) K1 r.2 w'.heap (own K1 r.2)∧Inv K1 r.2 w'.heap∧VRel K1 w'.heap r.2 r.1 v:=by
   rintro base rfl ⟨a,c,rfl⟩ rfl hle rfl
   obtain⟨cap',w1,q1,q2,q3,qio⟩:=(run_app2 (w:=w) hS A.siz A.hb A.hz (base:=base) (len:=0) (cap:=0) f2 v1).2 (by omega) (by rw[Nat.zero_add,←e16];exact hle) [] (by
    intro w3 _
    cases base<;>simp[Builtin.firstCells,loadCells,loadCellsFrom])
   rw[Nat.zero_add]at q1 q3
   simp only[Nat.zero_add]at q2
   generalize hCS:(([]++vc).toArray++Builtin.zeroCells A.z.cells (cap'-vs.length))=CS at q3
   have hsz:CS.size=cap'*sz:=by
    subst hCS
    rw[Array.size_append,zeroCells_size,hzs]
    simp[vl,←Nat.add_mul]
    congr 1;omega
   have hE:ERel K w.heap h sz vs CS 0:=by
    refine⟨f1,by rw[hsz,Nat.zero_add];exact Nat.mul_le_mul_right _ q1,fun i j e c he hcc=>?_⟩
    obtain⟨v,hv,hrr⟩:=v2.get (fl2 i j e c he hcc)
    refine⟨v,?_,hrr⟩
    subst hCS
    rw[Nat.zero_add,Array.getElem?_append_left]
    ·simpa using hv
    ·have:=(List.getElem?_eq_some_iff.1 hv).1;simpa using this
   obtain⟨K1,S1,V⟩:=own_new (el:=E) (fr:=(0,0)) (ac:=⟨#[],[]⟩) g hp (free0 CS) hE (Nat.le_refl vs.length) rfl q1 (by omega)
   refine(ins_end A.L hvl (Nat.le_refl 0) (by omega) (fun _=>rfl) q2).mono ?_
   rintro e w' ⟨rfl,rfl⟩
   obtain⟨E1,I1⟩:=step_nil S1
   exact⟨_,K1,rfl,qio,by rw[q3];exact E1,by rw[q3];exact I1,by rw[q3];exact V⟩
  split at e
  ·
   rename_i b tot off n cap b2 tot2 off2 n2 cap2
   simp only[bind_some']at e
   obtain⟨k,hk,e⟩:=e
   split at e
   case isFalse=>cases e
   rename_i hh
   obtain⟨rfl,rfl,rfl,hin,hbb,hle⟩:=hh
   injection e with e;subst e
   obtain⟨g1,g2⟩:=hget_some.1 hk
   simp only[elems,bind_some']at hvs
   obtain⟨k2,hk2,hvs⟩:=hvs
   split at hvs
   case isFalse=>cases hvs
   rename_i hh2
   injection hvs with hvs
   obtain⟨g3,g4⟩:=hget_some.1 hk2
   cases rs with
   |sl _ _ _ _ _ a cap' hb hlen hl0=>
   cases rv with
   |sl _ _ _ _ _ a2 cap2' hb2 hlen2 hl2=>
   obtain⟨q1,q2,q3,q4,l,q5,q6,q7⟩:=hl0 k hk
   obtain⟨p1,p2,p3,p4,l2,p5,p6,p7⟩:=hl2 k2 hk2
   have hvn:vs.length=n2:=by rw[←hvs];simp;omega
   have hcap2:cap2'≠0:=by omega
   have ha2:a2=⟨l2.B,l2.s+off2*k2.sz,none⟩:=by
    rcases p6 with p6|p6
    ·exact absurd p6 hcap2
    ·exact p6
   obtain⟨_,l',d1,d2,CS,el,fr,d3,d4,d5,d6⟩:=iv.blk b k g1
   rw[q5]at d1;injection d1 with d1;subst d1
   obtain⟨_,l2',d1,d2',CS2,el2,fr2,d3',d4',d5',d6'⟩:=iv.blk b2 k2 g3
   rw[p5]at d1;injection d1 with d1;subst d1
   have hlB:l2.B≠l.B:=fun hx=>hbb (iv.inj b b2 k k2 l l2 g1 g3 q5 p5 hx.symm)
   have hnn:k.es.length=n:=g2
   subst hnn
   have hds:∀e∈k.es.drop i,e.length=k.sz:=fun e h=>(d6.1 e (List.mem_of_mem_drop h)).1
   have hdone:∀e∈k.es.drop i,∀c∈e,c.one=true:=fun e h=>(d6.1 e (List.mem_of_mem_drop h)).2
   have q6':cap'=0∨a=⟨l.B,l.s,none⟩:=by simpa using q6
   have q7':l.s+cap'*k.sz≤l.E:=by simpa using q7
   have hlt:=lt_of_get d3
   have hmul:k.es.length*k.sz+vs.length*k.sz=(k.es.length+vs.length)*k.sz:=(Nat.add_mul _ _ _).symm
   have him:i*k.sz+vs.length*k.sz=(i+vs.length)*k.sz:=(Nat.add_mul _ _ _).symm
   have hin2:i*k.sz+(k.es.length-i)*k.sz=k.es.length*k.sz:=by rw[←Nat.add_mul];congr 1;omega
   have hnn0:k.es.length≤cap':=by omega
   subst hvn
   have fin:∀(l1:Loc) (CS3:Array Value) (el3:TypeId) (fr3:Nat×Nat) (w':World) (cap3:Nat),w'.heap[l1.B]? = some (.cells CS3 el3 fr3)→CS3.size=l1.E→free k.sz CS3 fr3→w.heap.size≤w'.heap.size→l1.B=l.B∨l1.B=w.heap.size→
    (∀B,B<w.heap.size→B≠l1.B→w'.heap[B]? = w.heap[B]?)→ERel K w.heap h k.sz (k.es.take i++vs++k.es.drop i) CS3 l1.s→((w'.os,w'.tape),w'.output)=((w.os,w.tape),w.output)→k.es.length+vs.length≤cap3→l1.s+cap3*k.sz≤l1.E→
    ∃v K1,Ending.returned (.slice (some ⟨l1.B,l1.s,none⟩) (k.es.length+vs.length) cap3) = .returned v∧((w'.os,w'.tape),w'.output)=((w.os,w.tape),w.output)∧
     Ext K h w.heap (own K h) K1 (h.set b (some ⟨k.sz,k.es.take i++vs++k.es.drop i⟩)) w'.heap (own K1 (h.set b (some ⟨k.sz,k.es.take i++vs++k.es.drop i⟩)))∧Inv K1 (h.set b (some ⟨k.sz,k.es.take i++vs++k.es.drop i⟩)) w'.heap∧
     VRel K1 w'.heap (h.set b (some ⟨k.sz,k.es.take i++vs++k.es.drop i⟩)) (.sl b (k.es.length+vs.length) 0 (k.es.length+vs.length) (k.es.length+vs.length)) v:=by
    intro l1 CS3 el3 fr3 w' cap3 h1 h2 h3 h4 h5 h6 h7 h8 h9 h10
    have hlen3:(k.es.take i++vs++k.es.drop i).length=k.es.length+vs.length:=by simp;omega
    obtain⟨E1,I1⟩:=step_nil (grow_own g g1 q5 (es:=k.es.take i++vs++k.es.drop i) (by rw[hlen3];omega) h1 h2 h3 h4 h5 h6 h7)
    have hb0:b<h.length:=(List.getElem?_eq_some_iff.1 g1).1
    have hset:∀k',(h.set b (some ⟨k.sz,k.es.take i++vs++k.es.drop i⟩))[b]? = some (some k')→k'=⟨k.sz,k.es.take i++vs++k.es.drop i⟩:=fun k' hk'=>by
     rw[List.getElem?_set,if_pos rfl,if_pos hb0]at hk'
     injection hk' with hk';injection hk' with hk';exact hk'.symm
    refine⟨_,_,rfl,h8,E1,I1,.sl _ _ _ _ _ _ _ ⟨by simpa using hb0,fun k' hk'=>?_⟩ h9 fun k' hk'=>?_⟩
    ·rw[hset k' hk',hlen3];exact Nat.le_refl _
    ·rw[hset k' (hget_some.1 hk').1]
     exact⟨by omega,Nat.le_refl _,h9,by omega,l1,by simp[Kx.add],.inr (by simp),by simpa using h10⟩
   obtain⟨ac,ar,al,ag⟩:=(d6.take hin).cells hp
   obtain⟨dc,dr,dl,dg⟩:=(d6.drop hin).cells hp
   rw[show (k.es.take i).length=i by simp;omega]at al
   rw[List.length_drop]at dl
   have hmm:most=17592186044416:=rfl
   have hsz0:=d6.2.1
   have hA0:∀(t j:Nat) (e:List IV) (c:IV),t<i→k.es[t]? = some e→e[j]? = some c→∃v,CS[l.s+t*k.sz+j]? = some v∧VRel K w.heap h c v:=fun t j e c _ h1 h2=>d6.2.2 t j e c h1 h2
   have hAc:∀(t j:Nat) (e:List IV) (c:IV),t<i→k.es[t]? = some e→e[j]? = some c→∃v,ac[t*k.sz+j]? = some v∧VRel K w.heap h c v:=fun t j e c ht h1 h2=>by
    obtain⟨v,h3,h4⟩:=hA0 t j e c ht h1 h2
    have hj:j<k.sz:=by rw[←(d6.1 e (List.mem_of_getElem? h1)).1];exact(List.getElem?_eq_some_iff.1 h2).1
    have h5:(t+1)*k.sz≤i*k.sz:=Nat.mul_le_mul_right _ (by omega)
    rw[Nat.succ_mul]at h5
    have h6:t*k.sz+j<ac.length:=by omega
    refine⟨v,?_,h4⟩
    rw[List.getElem?_eq_getElem h6]
    have:=ag _ _ (List.getElem?_eq_getElem h6)
    rw[←Nat.add_assoc,h3]at this
    injection this with this;rw[this]
   have hsl:vs=(k2.es.drop off2).take vs.length:=hvs.symm
   obtain⟨vc',vr,vl',vg⟩:=((d6'.drop (i:=off2) (by omega)).take (i:=vs.length) (by simp;omega)).cells (by omega)
   rw[hvs]at vr vl'
   have hez:k2.sz=k.sz:=hh2.1
   rw[hez]at vl' vg
   have vone':=vr.one hone
   have fcv:∀(w3:World) (m c:Nat),w3.heap[l2.B]? = w.heap[l2.B]?→m=vs.length→(Builtin.firstCells k.sz m (.slice (some a2) vs.length c)).run P w3 = .ok vc'.toArray w3:=fun w3 m c h1 h2=>by
    rw[ha2,hez]
    exact run_fc (h1.trans d3') vg (by rw[h2];exact vl')
   by_cases hend:i=k.es.length
   ·subst hend
    have hd0:dc=[]:=List.eq_nil_of_length_eq_zero (by rw[dl];simp)
    subst hd0
    have happ:=run_app2 (w:=w) hS A.siz A.hb A.hz (base:=some a) (len:=k.es.length) (cap:=cap') (v:=.slice (some a2) vs.length cap2') (n:=vs.length) f2 (fun w3 h3=>fcv w3 _ _ (by rw[h3]) rfl)
    by_cases hroom:k.es.length+vs.length≤cap'
    ·have ha:a=⟨l.B,l.s,none⟩:=by
      rcases q6' with h|h
      ·omega
      ·exact h
     subst ha
     have hmc:(k.es.length+vs.length)*k.sz≤cap'*k.sz:=Nat.mul_le_mul_right _ hroom
     obtain⟨w1,r1,r2,rio⟩:=run_stores P l.B (l.s+k.es.length*k.sz) el fr vc' 0 CS w d3 d5 (by omega) vone'
     have q:=happ.1 hroom w1 (fun a e=>by injection e with e;subst e;rw[add_lit];exact r1) (fun h=>by cases h)
     refine(ins_end A.L hvl hnn0 (by have:(k.es.length+vs.length)*1≤(k.es.length+vs.length)*(bytes+1):=Nat.mul_le_mul_left _ (by omega);omega) (fun h=>by cases h) q).mono ?_
     rintro e w' ⟨rfl,rfl⟩
     refine fin l (aput CS (l.s+k.es.length*k.sz) vc') el fr w' cap' (by rw[r2];exact put_at hlt) (by rw[aput_size];exact d4) (fun x hx=>d5 x (by rw[aput_size]at hx;exact hx)) (by rw[r2,put_size];exact Nat.le_refl _) (.inl rfl) (fun B _ hB=>by rw[r2];exact put_ne hB)
      (ERel_ins (CSx:=CS) hin d6.1 f1 (aput_size _ _ _) (by omega) hA0 vr dr fun x=>?_) rio hroom q7'
     rw[aput_get _ _ _ (by omega)]
     split
     ·rfl
     ·rw[if_neg (by simp)]
    ·have hold:∀w3:World,w3.heap=w.heap→(Builtin.firstCells k.sz k.es.length (.slice (some a) k.es.length cap')).run P w3 = .ok ac.toArray w3:=fun w3 h3=>by
      rcases q6' with h|h
      ·have h0:k.es.length=0:=by omega
       have:ac=[]:=List.eq_nil_of_length_eq_zero (by rw[al,h0,Nat.zero_mul])
       rw[this,h0]
       simp[Builtin.firstCells,loadCells,loadCellsFrom]
      ·subst h
       exact run_fc (by rw[h3];exact d3) ag al
     obtain⟨cap3,w1,r1,r2,r3,rio⟩:=happ.2 (by omega) (by rw[←hmm];exact hle) ac hold
     refine(ins_end A.L hvl hnn0 (by have:(k.es.length+vs.length)*1≤(k.es.length+vs.length)*(bytes+1):=Nat.mul_le_mul_left _ (by omega);omega) (fun h=>by cases h) r2).mono ?_
     rintro e w' ⟨rfl,rfl⟩
     generalize hCS:((ac++vc').toArray++Builtin.zeroCells A.z.cells (cap3-(k.es.length+vs.length)))=CS3 at r3
     have hmc:(k.es.length+vs.length)*k.sz+(cap3-(k.es.length+vs.length))*k.sz=cap3*k.sz:=by rw[←Nat.add_mul];congr 1;omega
     have hsz3:CS3.size=cap3*k.sz:=by
      subst hCS
      rw[Array.size_append,zeroCells_size,hzs]
      simp;omega
     have hat:∀x,x<(ac++vc').length→CS3[x]? = (ac++vc')[x]?:=fun x hx=>by
      subst hCS
      rw[Array.getElem?_append_left (by simpa using hx)];simp
     refine fin ⟨w.heap.size,0,CS3.size⟩ CS3 E (0,0) w' cap3 (by rw[r3,push_get,if_pos rfl]) rfl (free0 _) (by rw[r3];simp) (.inr rfl) (fun B hB hne=>by rw[r3,push_get,if_neg (by omega)])
      (ERel_ins (s:=0) (CSx:=CS3) hin d6.1 f1 rfl (by rw[hsz3];omega) (fun t j e c ht h1 h2=>?_) vr dr fun x=>?_) rio r1 (by simp only;rw[hsz3];omega)
     ·obtain⟨v,h3,h4⟩:=hAc t j e c ht h1 h2
      have hx:=(List.getElem?_eq_some_iff.1 h3).1
      refine⟨v,?_,h4⟩
      rw[Nat.zero_add,hat _ (by simp;omega),List.getElem?_append_left hx];exact h3
     ·split
      ·rename_i hx
       rw[hat _ (by simp;omega),List.getElem?_append_right (by omega)]
       congr 1;omega
      ·rw[if_neg (by simp)]
   ·have ha:a=⟨l.B,l.s,none⟩:=by
     rcases q6' with h|h
     ·omega
     ·exact h
    subst ha
    have hb1:(k.es.length+vs.length)*1≤(k.es.length+vs.length)*(bytes+1):=Nat.mul_le_mul_left _ (by omega)
    have hmin1:min (k.es.length-i) (k.es.length+vs.length-(i+vs.length))=k.es.length-i:=by omega
    have hmin2:min vs.length (k.es.length+vs.length-i)=vs.length:=by omega
    have done:∀v∈dc,v.oneCell'=true:=dr.one fun c hc=>by
     obtain⟨e,e1,e2⟩:=List.mem_flatten.1 hc
     exact hdone e e1 c e2
    by_cases hroom:k.es.length+vs.length≤cap'
    ·
     have hmc:(k.es.length+vs.length)*k.sz≤cap'*k.sz:=Nat.mul_le_mul_right _ hroom
     have hsz2:CS2.size≠0:=by
      have h1:=d6'.2.1
      have h2:k2.es.length*k2.sz≠0:=by
       have:0<k2.es.length*k2.sz:=Nat.mul_pos (by omega) (by omega)
       omega
      omega
     have hfr2:∀x,x≤CS2.size→(w.frozen? ⟨l2.B,x,none⟩)=false:=fun x hx=>by
      simp only[World.frozen?,d3']
      have:x<CS2.size∨(1<k2.sz∧x=CS2.size):=by omega
      have:=fun h=>d5' x this (.inl h)
      simpa using this
     have hov:∀lb cb,(callFunc A.L.fo #[.slice (some a2) vs.length cap2',.slice (some ((⟨l.B,l.s,none⟩:Addr).add ((i+vs.length)*k.sz))) lb cb]).run P w = .ok (.value (.bool false)) w:=fun lb cb=>by
      rw[A.hov,ha2,add_lit]
      have g1:=hfr2 (l2.s+off2*k2.sz) (by
       have h1:=d6'.2.1
       have:off2*k2.sz≤k2.es.length*k2.sz:=Nat.mul_le_mul_right _ (by omega)
       omega)
      have g2:=hfr2 CS2.size (Nat.le_refl _)
      have hsl0:CS.size≠0:=by
       have:0<k.es.length*k.sz:=Nat.mul_pos (by omega) (by omega)
       omega
      rw[Lib.run_overlaps_apart w S A.L.B E hS k.sz (fun w=>run_siz A.siz) ⟨l2.B,_,none⟩ ⟨l.B,_,none⟩ vs.length cap2' lb cb hlB el2 el CS2.size CS.size (by simp only[World.shape?,d3']) (by simp only[World.shape?,d3]) hsl0 g1 g2]
      rfl
     obtain⟨w2,r1,r2,rio⟩:=run_cpy (w:=w.drew) hS A.siz (B:=l.B) (o:=l.s+(i+vs.length)*k.sz) (CS:=CS) (el:=el) (fr:=fr) d3 d5 done (by omega) (dl:=k.es.length+vs.length-(i+vs.length)) (n:=k.es.length+vs.length-i) (src:=.slice (some ⟨l.B,l.s+i*k.sz,none⟩) (k.es.length+vs.length-i) (cap'-i)) (by simp[Builtin.lenOf])
      (by rw[show min (k.es.length+vs.length-i) (k.es.length+vs.length-(i+vs.length))=k.es.length-i by omega];exact run_fc (w:=w.drew) d3 dg dl)
     rw[show min (k.es.length+vs.length-i) (k.es.length+vs.length-(i+vs.length))=k.es.length-i by omega]at r1
     have hH2:w2.heap[l.B]? = some (.cells (aput CS (l.s+(i+vs.length)*k.sz) dc) el fr):=by rw[r2];exact put_at (by simpa using hlt)
     obtain⟨w3,r3,r4,rio2⟩:=run_cpy (w:=w2) hS A.siz (B:=l.B) (o:=l.s+i*k.sz) (CS:=aput CS (l.s+(i+vs.length)*k.sz) dc) (el:=el) (fr:=fr) hH2 (zz:=k.sz) (fun x hx=>d5 x (by rw[aput_size]at hx;exact hx)) vone' (by rw[aput_size];omega)
      (dl:=k.es.length+vs.length-i) (n:=vs.length) (src:=.slice (some a2) vs.length cap2') (by simp[Builtin.lenOf]) (by rw[hmin2];exact fcv w2 _ _ (by rw[r2];exact put_ne hlB) rfl)
     rw[hmin2]at r3
     refine(ins_shift (w2:=w2) (w3:=w3) A.L (i:=i) (by omega) hvl hroom (by omega) hov (fun ty dc' sc=>by rw[add_lit,add_lit];exact r1 ty dc') (fun ty dc'=>by rw[add_lit];exact r3 ty dc')).mono ?_
     rintro e w' ⟨rfl,rfl⟩
     refine fin l (aput (aput CS (l.s+(i+vs.length)*k.sz) dc) (l.s+i*k.sz) vc') el fr w' cap' (by rw[r4];exact put_at (by rw[r2,put_size];exact hlt)) (by rw[aput_size,aput_size];exact d4) (fun x hx=>d5 x (by rw[aput_size,aput_size]at hx;exact hx))
      (by rw[r4,put_size,r2,put_size];exact Nat.le_refl _) (.inl rfl) (fun B _ hB=>by rw[r4,put_ne hB,r2,put_ne hB];rfl)
      (ERel_ins (CSx:=CS) hin d6.1 f1 (by rw[aput_size,aput_size]) (by omega) hA0 vr dr fun x=>?_) (rio2.trans rio) hroom q7'
     rw[aput_get _ _ _ (by rw[aput_size];omega),aput_get _ _ _ (by omega)]
    ·
     obtain⟨c2,w1,r1,r2,r3,rio⟩:=run_appz (I:=A.L.I) w hS A.L.hI A.siz hp A.hb A.hz (a:=⟨l.B,l.s,none⟩) (i:=i) (c:=cap') (k:=k.es.length+vs.length-i) (by omega) (by omega) (by rw[show i+(k.es.length+vs.length-i)=k.es.length+vs.length by omega,←hmm];exact hle) (old:=ac)
      (fun w3 h3=>run_fc (by rw[h3];exact d3) ag al) 0
     rw[show i+(k.es.length+vs.length-i)=k.es.length+vs.length by omega]at r1 r2 r3
     generalize hCS:ac.toArray++Builtin.zeroCells A.z.cells (k.es.length+vs.length-i)++Builtin.zeroCells A.z.cells (c2-(k.es.length+vs.length))=CSn at r3
     have hmc:i*k.sz+(k.es.length+vs.length-i)*k.sz+(c2-(k.es.length+vs.length))*k.sz=c2*k.sz:=by rw[←Nat.add_mul,←Nat.add_mul];congr 1;omega
     have hmc2:(k.es.length+vs.length)*k.sz≤c2*k.sz:=Nat.mul_le_mul_right _ r1
     have hszn:CSn.size=c2*k.sz:=by
      subst hCS
      rw[Array.size_append,Array.size_append,zeroCells_size,zeroCells_size,hzs]
      simp;omega
     have hH1:w1.heap[w.heap.size]? = some (.cells CSn E (0,0)):=by rw[r3,push_get,if_pos rfl]
     have hl2:=lt_of_get d3'
     obtain⟨w2,r4,r5,rio2⟩:=run_cpy (w:=w1) hS A.siz (B:=w.heap.size) (o:=0+i*k.sz) (CS:=CSn) (el:=E) (fr:=(0,0)) (zz:=1) hH1 (free0 _) vone' (by rw[hszn];omega)
      (dl:=k.es.length+vs.length-i) (n:=vs.length) (src:=.slice (some a2) vs.length cap2') (by simp[Builtin.lenOf]) (by rw[hmin2];exact fcv w1 _ _ (by rw[r3,push_get,if_neg (by omega)]) rfl)
     rw[hmin2]at r4
     have hlt1:w.heap.size<w1.heap.size:=by rw[r3];simp
     have hH2:w2.heap[w.heap.size]? = some (.cells (aput CSn (0+i*k.sz) vc') E (0,0)):=by rw[r5];exact put_at hlt1
     have hHl:w2.heap[l.B]? = some (.cells CS el fr):=by rw[r5,put_ne (by omega),r3,push_get,if_neg (by omega)];exact d3
     obtain⟨w3,r6,r7,rio3⟩:=run_cpy (w:=w2.drew) hS A.siz (B:=w.heap.size) (o:=0+(i+vs.length)*k.sz) (CS:=aput CSn (0+i*k.sz) vc') (el:=E) (fr:=(0,0)) (zz:=1) hH2 (free0 _) done (by rw[aput_size,hszn];omega)
      (dl:=k.es.length+vs.length-(i+vs.length)) (n:=k.es.length-i) (src:=.slice (some ⟨l.B,l.s+i*k.sz,none⟩) (k.es.length-i) (cap'-i)) (by simp[Builtin.lenOf])
      (by rw[hmin1];exact run_fc (w:=w2.drew) hHl dg dl)
     rw[hmin1]at r6
     refine(ins_grow (w1:=w1) (w2:=w2) (w3:=w3) A.L (i:=i) (a2:=⟨w.heap.size,0,none⟩) (c2:=c2) (by omega) hvl hnn0 (by omega) r1 (by omega) (fun ty=>by rw[show ((k.es.length:Int)+(vs.length:Int)-(i:Int))=((k.es.length+vs.length-i:Nat):Int) by omega];exact r2)
      (fun ty=>by rw[add_lit];exact r4 ty _) (fun ty=>by rw[add_lit,add_lit];exact r6 ty _)).mono ?_
     rintro e w' ⟨rfl,rfl⟩
     generalize hC3:aput (aput CSn (0+i*k.sz) vc') (0+(i+vs.length)*k.sz) dc=CS3 at r7
     have hs3:CS3.size=CSn.size:=by rw[←hC3,aput_size,aput_size]
     refine fin ⟨w.heap.size,0,CS3.size⟩ CS3 E (0,0) w' c2 (by rw[r7];exact put_at (by show _<w2.drew.heap.size;have:w2.drew.heap=w2.heap:=rfl;rw[this,r5,put_size];exact hlt1)) rfl (free0 _)
      (by rw[r7,put_size];show _≤w2.heap.size;rw[r5,put_size];omega) (.inr rfl) (fun B hB hne=>by rw[r7,put_ne hne];show w2.heap[B]? = _;rw[r5,put_ne hne,r3,push_get,if_neg (by omega)])
      (ERel_ins (s:=0) (CSx:=CSn) hin d6.1 f1 hs3 (by rw[hszn];omega) (fun t j e c ht h1 h2=>?_) vr dr fun x=>?_) (rio3.trans (rio2.trans rio)) r1 (by simp only;rw[hs3,hszn];omega)
     ·obtain⟨v,h3,h4⟩:=hAc t j e c ht h1 h2
      have hx:=(List.getElem?_eq_some_iff.1 h3).1
      refine⟨v,?_,h4⟩
      subst hCS
      rw[Nat.zero_add,Array.append_assoc,Array.getElem?_append_left (by simpa using hx)]
      simpa using h3
     ·rw[←hC3,aput_get _ _ _ (by rw[aput_size,hszn];omega),aput_get _ _ _ (by rw[hszn];omega)]
      by_cases c1:0+i*k.sz≤x∧x<0+i*k.sz+vc'.length
      ·rw[if_pos c1,if_neg (by omega),if_pos c1]
      ·rw[if_neg c1,if_neg c1]
  ·
   split at e
   case isFalse=>cases e
   rename_i hh
   injection e with e
   cases rs
   cases rv with
   |sl _ _ _ _ _ a2 cap2' hb2 hlen2 hl2=>
    exact fresh none rfl ⟨some a2,cap2',by rw[hvx _ _ _ rfl]⟩ hh.1 hh.2 e.symm
  ·
   split at e
   case isFalse=>cases e
   rename_i hh
   injection e with e
   cases rs
   cases rv with
   |sl _ _ _ _ _ a2 cap2' hb2 hlen2 hl2=>
    exact fresh _ rfl ⟨some a2,cap2',by rw[hvx _ _ _ rfl]⟩ hh.1 hh.2 e.symm
  ·cases e
end Go.Ideal
set_option linter.unusedVariables false
set_option linter.unusedSimpArgs false
set_option linter.unusedSectionVars false
namespace Go.Ideal
def primA (p:Prim):AFn:=⟨3,[.tmp primSlot],.prim p,[]⟩
def insF {α:Type} (bytes:Nat) (s:List α) (i:Int) (v:List α):Option (List α):=
 cut (decide (0≤i)) (cut (decide (i.toNat≤s.length)) (cut (decide (0<v.length)) (cut (decide ((s.length+v.length)*(bytes+1)≤most)) (some (s.take i.toNat++v++s.drop i.toNat)))))
def insOC (t:Ty) (bytes:Nat):OC:=⟨3,[(0,.own t),(1,.val false false ⟨false,.int .i64⟩),(2,.own t)],[(resB,.own t)],[],1,fun x=>insF bytes x.1 x.2.1 x.2.2⟩
theorem insF_some {α:Type} {bytes:Nat} {s v r:List α} {i:Int} (h:insF bytes s i v=some r):0≤i∧i.toNat≤s.length∧0<v.length∧(s.length+v.length)*(bytes+1)≤most∧r=s.take i.toNat++v++s.drop i.toNat:=by
 unfold insF at h
 obtain⟨h1,h⟩:=cut_some.1 h
 obtain⟨h2,h⟩:=cut_some.1 h
 obtain⟨h3,h⟩:=cut_some.1 h
 obtain⟨h4,h⟩:=cut_some.1 h
 injection h with h
 exact⟨of_decide_eq_true h1,of_decide_eq_true h2,of_decide_eq_true h3,of_decide_eq_true h4,h.symm⟩
theorem insOC_ok {prog:Nat→Option SFn} {opn:Nat→Bool} {f:Nat} {t:Ty} {bytes:Nat} (hf:prog f=some (primFn (.ins t.n bytes))) (hn:1<t.n):OCtOk prog opn f (insOC t bytes):=by
 intro p Z h rt ivs x L O hlen sf sep rti y hy
 obtain⟨s,⟨i,⟨v,⟨⟩⟩⟩⟩:=x
 simp only[insOC,SF,KF]at sf
 obtain⟨L1,L2,O1,O2,rfl,rfl,⟨iv0,mb0,h0,w0,rfl,rfl⟩,L3,L4,O3,O4,rfl,rfl,⟨⟨iv1,h1,w1⟩,rfl,rfl⟩,L5,L6,O5,O6,rfl,rfl,⟨iv2,mb2,h2,w2,rfl,rfl⟩,rfl,rfl⟩:=sf
 have hl3:ivs.length=3:=hlen
 match ivs,hl3 with
 |[a,b,c],_=>
 simp[initFr,Fr.get]at h0 h1 h2
 subst h0;subst h1;subst h2
 simp only[TV]at w1
 rw[if_neg (by simp)]at w1
 simp only[TR,DL.fst,DL.snd,List.cons.injEq,and_true]at w0 w1 w2
 subst w1
 obtain⟨hi0,hin,hv0,hle,hy'⟩:=insF_some hy
 have e1:(pack (a:=(insOC t bytes).inn.hs) (s,i,v,())).1=s:=rfl
 have e2:(pack (a:=(insOC t bytes).inn.hs) (s,i,v,())).2.1=i:=rfl
 have e3:(pack (a:=(insOC t bytes).inn.hs) (s,i,v,())).2.2=v:=rfl
 rw[e1]at hin hle hy';rw[e2]at hi0 hin hy';rw[e3]at hv0 hle hy'
 obtain⟨wa,wb⟩:=w0
 obtain⟨wc,wd⟩:=w2
 simp only[foot,List.flatMap_append,List.append_nil,List.flatMap_cons,List.flatMap_nil,List.nil_append]at sep
 cases mb2 with
 |none=>simp only at wd;subst wd;simp at hv0
 |some b2=>
 obtain⟨es2,g2,r2⟩:=wd
 replace r2:All2 (TR p Z h true t true) v es2:=r2
 replace wa:OwnR mb0 s.length a:=wa
 replace wc:c = .sl b2 v.length 0 v.length v.length:=wc
 subst wc
 have hlen2:es2.length=v.length:=r2.len
 have hb2:=sep.own b2 (by simp[foot])
 have hel:elems h t.n (.sl b2 v.length 0 v.length v.length)=some es2:=by
  have:hget h b2 v.length=some ⟨t.n,es2⟩:=hget_iff.2 ⟨g2,hlen2⟩
  simp only[elems,this]
  show (if t.n=t.n∧0+v.length≤v.length then some (List.take v.length (List.drop 0 es2)) else none)=_
  rw[if_pos ⟨rfl,by omega⟩,List.drop_zero,←hlen2,List.take_length]
 have hcall:∀{r:IV×Heap},primEv (.ins t.n bytes) [a,.int .i64 i,.sl b2 v.length 0 v.length v.length] h=some r→callL prog opn f [a,.int .i64 i,.sl b2 v.length 0 v.length v.length] h=some r:=fun {r} hr=>by
  rw[callL_eq,hf]
  simp only[Option.bind_some,primFn,start,List.length_cons,List.length_nil,Nat.reduceAdd,Nat.le_refl,if_true,evC,evArgs,mapO,SX.val,SX.ev,initFr,Fr.get,Nat.reduceEqDiff,if_false,hr,finish,results1,Fr.put,tupled]
 have hi:i=(Int.toNat i:Int):=(Int.toNat_of_nonneg hi0).symm
 generalize i.toNat=k at hi hin hy'
 subst hi
 subst hy'
 have fin:∀(b:Nat) (es:List (List IV)) (h':Heap),primEv (.ins t.n bytes) [a,.int .i64 k,.sl b2 v.length 0 v.length v.length] h=some (.sl b (s.length+v.length) 0 (s.length+v.length) (s.length+v.length),h')→h'[b]? = some (some ⟨t.n,es⟩)→
  (∀x,x≠b→x<h.length→h'[x]? = h[x]?)→h.length≤h'.length→¬Z b→(some b=mb0∨h.length≤b)→(∀Z2:Nat→Prop,ZLe Z Z h h'→All2 (TR p Z h' true t true) (s.take k++v++s.drop k) es)→
  ∃(rs:List IV) (h'':Heap) (Z':Nat→Prop) (L':Lo) (O':Oo) (σ':Fr),callL prog opn f [a,.int .i64 k,.sl b2 v.length 0 v.length v.length] h=some (tupled rs,h'')∧rs.length=(insOC t bytes).nres∧
  SF p Z' h'' rt σ' (baseI (insOC t bytes).inn) fkN (insOC t bytes).out (unpack (a:=(insOC t bytes).out.hs) (s.take k++v++s.drop k)) L' O'∧(∀j r,rs[j]? = some r→σ'.get (resB+j)=some (.val r))∧(∀q∈O',q∈([]:Oo))∧
  UF h.length (fun b=>b∈foot ([(mb0,[])]++[(some b2,[])])∨∃q∈([]:Oo),q.2=b) Z h Z' h'' L' O'∧ZLe Z Z' h h'':=by
  intro b es h' hp hb hsame hlen' hz hmb hall
  have zle:ZLe Z Z h h':=⟨fun x hx=>hx,fun x hx=>hsame x (fun e=>hz (e▸hx)) (sep.zb x hx)⟩
  refine⟨[.sl b (s.length+v.length) 0 (s.length+v.length) (s.length+v.length)],h',Z,[(some b,[])],[],[(resB,.val (.sl b (s.length+v.length) 0 (s.length+v.length) (s.length+v.length)))],hcall hp,rfl,?_,?_,by simp,?_,zle⟩
  ·refine⟨[(some b,[])],[],[],[],rfl,rfl,⟨.sl b (s.length+v.length) 0 (s.length+v.length) (s.length+v.length),some b,by simp[Fr.get],⟨?_,es,hb,hall Z zle⟩,rfl,rfl⟩,rfl,rfl⟩
   have:(s.take k++v++s.drop k).length=s.length+v.length:=by simp;omega
   show OwnR (some b) (s.take k++v++s.drop k).length _
   rw[this];rfl
  ·intro j r hr
   cases j with
   |zero=>simp at hr;subst hr;simp[Fr.get]
   |succ j=>simp at hr
  ·have hbl:b<h'.length:=(List.getElem?_eq_some_iff.1 hb).1
   refine⟨fun x hx=>?_,by simp[foot],by simp,by simp,by simp,⟨hlen',fun x hx hn=>hsame x (fun e=>?_) hx⟩,fun x hx=>⟨Nat.lt_of_lt_of_le (sep.zb x hx) hlen',.inl hx⟩,fun x hx=>hx⟩
   ·simp[foot]at hx
    subst hx
    refine⟨hmb.imp (fun e=>?_) id,hz,hbl⟩
    left;rw[←e];simp[foot]
   ·subst e
    rcases hmb with e|e
    ·exact hn (.inl (by rw[←e];simp[foot]))
    ·omega
 cases mb0 with
 |none=>
  have hs:s=[]:=wb
  subst hs
  have hk:k=0:=by simpa using hin
  subst hk
  have hp:primEv (.ins t.n bytes) [a,.int .i64 (0:Nat),.sl b2 v.length 0 v.length v.length] h=some (.sl h.length v.length 0 v.length v.length,h++[some ⟨t.n,es2⟩]):=by
   have hle':v.length*(bytes+1)≤most:=by simpa using hle
   rcases wa with rfl|rfl<;>
   ·simp only[primEv,asNat,hel,Option.bind_some]
    rw[if_pos (by omega)]
    simp only[Option.bind_some,Int.toNat_natCast,hlen2]
    rw[if_pos ⟨hn,hv0⟩,if_pos ⟨by trivial,hle'⟩]
  refine fin h.length es2 (h++[some ⟨t.n,es2⟩]) (by simpa using hp) (by simp) (fun x _ hx=>List.getElem?_append_left hx) (by simp) (fun hz=>absurd (sep.zb _ hz) (by omega)) (.inr (Nat.le_refl _)) fun _ zle=>?_
  simpa using r2.imp (fun x e g=>TR.mono zle g)
 |some b=>
  obtain⟨es,g1,r1⟩:=wb
  replace r1:All2 (TR p Z h true t true) s es:=r1
  have wa:a = .sl b s.length 0 s.length s.length:=wa
  subst wa
  have hb:=sep.own b (by simp[foot])
  have hbb:b≠b2:=by
   have:=sep.ownN
   simp[foot]at this
   exact this
  have hlen1:es.length=s.length:=r1.len
  have hp:primEv (.ins t.n bytes) [.sl b s.length 0 s.length s.length,.int .i64 k,.sl b2 v.length 0 v.length v.length] h=some (.sl b (s.length+v.length) 0 (s.length+v.length) (s.length+v.length),h.set b (some ⟨t.n,es.take k++es2++es.drop k⟩)):=by
   have h1:hget h b s.length=some ⟨t.n,es⟩:=hget_iff.2 ⟨g1,hlen1⟩
   simp only[primEv,asNat,hel,Option.bind_some]
   rw[if_pos (by omega)]
   simp only[Option.bind_some,Int.toNat_natCast,hlen2,h1]
   rw[if_pos ⟨hn,hv0⟩,if_pos ⟨by trivial,by trivial,by trivial,hin,hbb,hle⟩]
  refine fin b (es.take k++es2++es.drop k) _ hp (by rw[List.getElem?_set,if_pos rfl,if_pos hb.2]) (fun x hx _=>by rw[List.getElem?_set,if_neg (Ne.symm hx)]) (by simp) hb.1 (.inl rfl) fun _ zle=>?_
  have m1:=r1.imp (fun x e g=>TR.mono zle g)
  have m2:=r2.imp (fun x e g=>TR.mono zle g)
  exact((m1.take k).app m2).app (m1.drop k)
def Code.poss:Code→List String
 |.region _ ops _=>ops.toList.map (·.pos)
 |.seq a b=>Code.poss a++Code.poss b
 |.cond _ a b=>Code.poss a++Code.poss b
 |.block _ a=>Code.poss a
 |.loop a=>Code.poss a
 |.scope a=>Code.poss a
 |.rangeFunc _ _ a b=>Code.poss a++Code.poss b
 |_=>[]
def posFn (fn : Func) (i : Nat) : String := (Code.poss (fn.body.getD .skip)).getD i ""
theorem insLink {P : Program} {opn : Nat → Bool} {f S E sz bytes I B V fo fr : Nat} {fn fno : Func} (h1 : P.funcs[f]? = some fn) (h2 : fn.body = some (insBody (posFn fn) S I B V fo fr)) (h3 : fn.ntmps = 95) (h4 : fn.results = #[.tmp 6]) (h5 : (fn.name == "runtime.NumGoroutine") = false)
 (hS:P.underlying S=some (.slice E)) (hI:P.underlying I=some (.int .i64)) (hB:P.underlying B=some .bool) (hsz:(P.info? E).map (·.size)=some sz) (mixed:P.follows .mixedOrders=true) (hb:(P.info? E).map (·.bytes)=some bytes)
 (hz : (P.info? E).bind (·.zero) = some (((P.info? E).bind (·.zero)).getD undef)) (hzs : (((P.info? E).bind (·.zero)).getD undef).cells.size = sz) (g1 : P.funcs[fo]? = some fno) (g2 : (fno.name == "runtime.NumGoroutine") = false) (g3 : fno.body.isNone = true)
 (g4:Extern.findNext fno=none) (g5:Extern.find fno=some (Extern.SlicesOverlaps.overlaps #[S,S] #[B])):FLink P opn f (primA (.ins sz bytes)).fn:=
 ⟨.inr ⟨_,rfl,prim_ins ⟨⟨posFn fn,I,B,V,fo,fr,fn,h1,h2,h3,h4,hS,hI,hB,fun w=>run_siz hsz,mixed⟩,hsz,hb,_,hz,hzs,fun args w=>run_callFunc_extern g1 g2 g3 g4 g5 args w,⟨fn,h1,h5,by rw[h2];rfl⟩⟩⟩⟩
end Go.Ideal
