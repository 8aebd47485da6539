/- slices.Chunk: its function and its iterator (walks). -/
import Derived.Test.YtbkfoogenhinfaaLb
import Derived.RangeFuncWrites
import Derived.RangeFuncBox
import Derived.RangeFuncLeaves
import Derived.Shelf.Abstract
import Derived.WalkKit
import Derived.OwnWalkIn
import Derived.TacticsInMore
import Derived.LoopNIn
import Derived.LoopIn
import Derived.Shelf.RegionOpenPlain
set_option linter.unusedVariables false
set_option linter.unusedSimpArgs false
set_option maxRecDepth 100000
namespace Go.Ideal
open Go.RowKit Go.Shelf
attribute [local go_sem] Oper.semAt_some
def rU (p:Nat->String) (S I B Q Y X Z:TypeId) (fi:FuncId):Code:=
 .seq (.region 0 #[⟨some 2,.box S (.tmp 0),0,p 0,#[],none⟩,
      ⟨some 3,.box I (.tmp 1),0,p 1,#[],none⟩,
      ⟨some 4,.assign (.const .nilFunc),Q,p 2,#[],none⟩] false) <|
 .seq (.seq (.region 1 #[⟨some 5,.load I (.tmp 3),I,p 3,#[],none⟩,
       ⟨some 6,.binOp .lss I (.tmp 5) (.const (.int .i64 (1))) I,B,p 4,#[⟨0,.data⟩],none⟩] false) <|
  .cond (.tmp 6) (.region 2 #[⟨some 7,.makeInterface X (.const (.string ⟨#[99,97,110,110,111,116,32,98,101,32,108,101,115,115,32,116,104,97,110,32,49]⟩)),Z,p 5,#[],none⟩,
        ⟨none,.panic (.tmp 7),0,p 6,#[⟨0,.data⟩],none⟩] false) (.skip)) <|
 .seq (.region 3 #[⟨some 8,.makeFunc (.func fi) #[] #[(.tmp 2),(.tmp 3)],Y,p 7,#[],none⟩,
      ⟨some 4,.assign (.tmp 8),Q,p 8,#[⟨0,.data⟩,⟨0,.phase⟩],none⟩] false) <|
 .ret
def uE (p:Nat->String) (S I B W:TypeId):Code:=
 .seq (.region 0 #[⟨some 4,.assign (.const (.int .i64 (0))),I,p 0,#[],none⟩] false) <|
 .block 0 (.loop (.seq (.seq (.region 1 #[⟨some 6,.move (.tmp 4),I,p 1,#[],none⟩,
           ⟨some 7,.load S (.tmp 1),S,p 2,#[],none⟩,
           ⟨some 8,.call { callee:=.builtin Go.Builtin.len,args:=#[(.tmp 7)],argTypes:=#[S] },I,p 3,#[⟨1,.data⟩],none⟩,
           ⟨some 9,.binOp .lss I (.tmp 6) (.tmp 8) I,B,p 4,#[⟨0,.data⟩,⟨2,.data⟩],none⟩] false) <|
  .cond (.tmp 9) (.skip) (.exit 0)) <|
  .seq (.block 1 (.seq (.region 3 #[⟨some 13,.load I (.tmp 2),I,p 5,#[],none⟩,
         ⟨some 14,.load S (.tmp 1),S,p 6,#[],none⟩,
         ⟨some 15,.move (.tmp 4),I,p 7,#[],none⟩,
         ⟨some 16,.slice S (.tmp 14) (some (.tmp 15)) none none,S,p 8,#[⟨1,.data⟩,⟨2,.data⟩],none⟩,
         ⟨some 17,.call { callee:=.builtin Go.Builtin.len,args:=#[(.tmp 16)],argTypes:=#[S] },I,p 9,#[⟨3,.data⟩],none⟩,
         ⟨some 18,.call { callee:=.builtin Go.Builtin.min,args:=#[(.tmp 13),(.tmp 17)],argTypes:=#[I,I] },I,p 10,#[⟨0,.data⟩,⟨4,.data⟩],none⟩,
         ⟨some 5,.assign (.tmp 18),I,p 11,#[⟨5,.data⟩,⟨0,.phase⟩,⟨1,.phase⟩,⟨2,.phase⟩,⟨3,.phase⟩,⟨4,.phase⟩,⟨5,.phase⟩],none⟩] true) <|
   .seq (.region 4 #[⟨some 19,.move (.tmp 0),W,p 12,#[],none⟩,
        ⟨some 20,.load S (.tmp 1),S,p 13,#[],none⟩,
        ⟨some 21,.move (.tmp 4),I,p 14,#[],none⟩,
        ⟨some 22,.move (.tmp 4),I,p 15,#[],none⟩,
        ⟨some 23,.move (.tmp 5),I,p 16,#[],none⟩,
        ⟨some 24,.binOp .add I (.tmp 22) (.tmp 23) I,I,p 17,#[⟨3,.data⟩,⟨4,.data⟩],none⟩,
        ⟨some 25,.move (.tmp 4),I,p 18,#[],none⟩,
        ⟨some 26,.move (.tmp 5),I,p 19,#[],none⟩,
        ⟨some 27,.binOp .add I (.tmp 25) (.tmp 26) I,I,p 20,#[⟨6,.data⟩,⟨7,.data⟩],none⟩,
        ⟨some 28,.slice S (.tmp 20) (some (.tmp 21)) (some (.tmp 24)) (some (.tmp 27)),S,p 21,#[⟨1,.data⟩,⟨2,.data⟩,⟨5,.data⟩,⟨8,.data⟩],none⟩,
        ⟨some 29,.call { callee:=.value (.tmp 19),args:=#[(.tmp 28)],argTypes:=#[S] },B,p 22,#[⟨0,.data⟩,⟨9,.data⟩],none⟩,
        ⟨some 30,.unOp .not B (.tmp 29),B,p 23,#[⟨10,.data⟩],none⟩] false) <|
   .cond (.tmp 30) (.ret) (.skip))) <|
  .region 2 #[⟨some 10,.move (.tmp 4),I,p 24,#[],none⟩,
   ⟨some 11,.load I (.tmp 2),I,p 25,#[],none⟩,
   ⟨some 12,.binOp .add I (.tmp 10) (.tmp 11) I,I,p 26,#[⟨0,.data⟩,⟨1,.data⟩],none⟩,
   ⟨some 4,.assign (.tmp 12),I,p 27,#[⟨2,.data⟩,⟨0,.phase⟩,⟨1,.phase⟩,⟨2,.phase⟩],none⟩] false))
structure oR (P:Program) (f:FuncId) (S E sz:Nat) where
 p:Nat->String
 p2:Nat->String
 I:Nat
 B:Nat
 Q:Nat
 Y:Nat
 X:Nat
 Z:Nat
 W:Nat
 fi:FuncId
 fn:Func
 fn2:Func
 hf:P.funcs[f]? = some fn
 hb:fn.body=some (rU p S I B Q Y X Z fi)
 hn:fn.ntmps=9
 hr:fn.results = #[.tmp 4]
 hf2:P.funcs[fi]? = some fn2
 hb2:fn2.body=some (uE p2 S I B W)
 hn2:fn2.ntmps=31
 hr2:fn2.results = #[]
 hS:P.underlying S=some (.slice E)
 hI:P.underlying I=some (.int .i64)
 hB:P.underlying B=some .bool
 hE:∀w,(Go.sizeOf E).run P w = .ok sz w
 mixed:P.follows .mixedOrders=true
 hg : (fn.name == "runtime.NumGoroutine") = false
 hg2 : (fn2.name == "runtime.NumGoroutine") = false
set_option maxHeartbeats 4000000
section
variable {P:Program} {f:FuncId} {S E sz:Nat}
theorem Dm {t:TypeId} {d:TypeDesc} (h:P.underlying t=some d) (h1:∀fs,d≠.struct fs) (h2:∀n e,d≠.array n e) (w:World):(isAgg t).run P w = .ok false w:=by
 simp only[isAgg,aO,run_underlying h,aH]
 cases d<;>first|rfl|exact absurd rfl (h1 _)|exact absurd rfl (h2 _ _)
theorem Gs (L:oR P f S E sz) (a:Option Addr) (len cap:Nat) (c:Int) (hc:1≤c) (w:World):
 Calls P f #[.slice a len cap,.int .i64 c] w fun e w'=>e = .returned (.func (.func L.fi) #[] #[.pointer (some ⟨w.heap.size,0,none⟩),.pointer (some ⟨w.heap.size+1,0,none⟩)])/\
  w'=(w.alloc (.cells #[.slice a len cap] S)).alloc (.cells #[.int .i64 c] L.I):=by
 obtain⟨p,p2,I,B,Q,Y,X,Z,Wt,fi,fn,fn2,hf,hb,hn,hr,hf2,hb2,hn2,hr2,hS,hI,hB,hE,mixed,_,_⟩:=L
 have uS:=run_underlying hS;have uI:=run_underlying hI;have uB:=run_underlying hB
 have hf':P.funcs[f]? = some { fn with body:=some (rU p S I B Q Y X Z fi),ntmps:=9,results:=#[.tmp 4] }:=by rw[hf,<-hb,<-hn,<-hr]
 have aS:=Dm hS (by intro fs h;cases h) (by intro n e h;cases h)
 have aI:=Dm hI (by intro fs h;cases h) (by intro n e h;cases h)
 dsimp only
 clear hf hb hn hr
 have hc1:¬(c<1):=by omega
 refine calls_of_wp hf' rfl ?_
 clear hf'
 simp only[Nk,eE,iL,Nat.reduceAdd,Nat.reduceSub,Array.replicate_succ,
  Array.replicate_zero,List.push_toArray,List.append_toArray,bZ,cG]
 unfold rU
 go_wp2
 all_goals (go_ret;first|exact⟨rfl,rfl⟩|(simp))
def Kb (a:Addr) (sz c len k:Nat):Value:=.slice (some (a.add (k*c*sz))) (min c (len-k*c)) (min c (len-k*c))
theorem Tr (L:oR P f S E sz) (n l Bs Bn:Nat) (a:Addr) (ao:Option Addr) (len cap c N:Nat) (ha:len≠0->ao=some a) (hc:1≤c) (hlen:len≤cap) (h63:len+c<9223372036854775807) (hN:N*c<len+c) (hN2:len≤N*c) (J Jx:Nat->World->Prop)
 (hdr:∀k W,J k W->J k W.drew)
 (hB:∀k W,J k W->W.cell? ⟨Bs,0,none⟩=some (.slice ao len cap)/\W.cell? ⟨Bn,0,none⟩=some (.int .i64 c))
 (hY:∀k W,J k W->k<N->YieldAt Fence.wide (n-1) P l #[Kb a sz c len k] W fun e W'=>(e = .returned (.bool true)/\J (k+1) W')\/(e = .returned (.bool false)/\Jx k W'))
 (W:World) (h0:J 0 W):
 CallsIn Fence.wide n P L.fi #[.func (.yield l) #[] #[],.pointer (some ⟨Bs,0,none⟩),.pointer (some ⟨Bn,0,none⟩)] W fun e W'=>(∃v,e = .returned v)/\(J N W'\/∃k,k<N/\Jx k W'):=by
 obtain⟨p,p2,I,B,Q,Y,X,Z,Wt,fi,fn,fn2,hf,hb,hn,hr,hf2,hb2,hn2,hr2,hS,hI,hB',hE,mixed,_,_⟩:=L
 have uS:=run_underlying hS;have uI:=run_underlying hI;have uB:=run_underlying hB'
 have hf':P.funcs[fi]? = some { fn2 with body:=some (uE p2 S I B Wt),ntmps:=31,results:=#[] }:=by rw[hf2,<-hb2,<-hn2,<-hr2]
 have aS:=Dm hS (by intro fs h;cases h) (by intro n e h;cases h)
 have aI:=Dm hI (by intro fs h;cases h) (by intro n e h;cases h)
 dsimp only
 clear hf hb hn hr hf2 hb2 hn2 hr2
 have hro:Fence.wide.round=none:=rfl
 refine callsIn_of_wp hf' rfl trivial ?_ hro
 clear hf'
 simp only[Nk,eE,iL,Nat.reduceAdd,Nat.reduceSub,Array.replicate_succ,
  Array.replicate_zero,List.push_toArray,List.append_toArray,bZ,cG]
 unfold uE
 gi_wp2
 gi_loopw [4] (fun i wr=>∃k:Nat,k≤N/\i = .int .i64 ((k*c:Nat):Int)/\J k wr)
  (fun i _=>N*c-(intOf i).toNat)
 case atStart=>exact⟨0,fO _,by simp,h0⟩
 case round=>
  obtain⟨k,hk,rfl,hJs⟩:=hrel
  obtain⟨b1,b2⟩:=hB k wr hJs
  by_cases hlt:k<N
  ·obtain⟨q1,q2⟩:=hB k wr.drew (hdr k wr hJs)
   obtain⟨fnY,tmpsY,assignY,bodyY,hy,hR⟩:=hY k wr.drew (hdr k wr hJs) hlt
   have hkl:k*c<len:=by
    have:k*c+c≤N*c:=by rw[<-eF];exact bB _ hlt
    omega
   obtain rfl:ao=some a:=ha (by omega)
   have e1:((k*c:Nat):Int)<(len:Int):=by omega
   generalize hkc:k*c=i at *
   gi_wp2
   refine wpIn_wide.2 ?_
   go_region_o
   have e2:(if len-i<c then ((len-i:Nat):Int) else (c:Int))=((min c (len-i):Nat):Int):=by
    by_cases h:len-i<c
    ·rw[if_pos h,Ro (by omega)]
    ·rw[if_neg h,iK (by omega)]
   have e3:1≤min c (len-i):=by omega
   have e4:i+min c (len-i)≤len:=by omega
   rw[e2]
   generalize hm:min c (len-i)=m at *
   have e5:IntKind.i64.wrap ((i:Int)+(m:Int))=(i:Int)+(m:Int):=by rw[IntKind.wrap_i64];omega
   have e6:(0:Int)≤(i:Int)+(m:Int):=by omega
   have e7:(i:Int)+(m:Int)≤(cap:Int):=by omega
   have e8:(i:Int)≤(i:Int)+(m:Int):=by omega
   have e9:((i:Int)+(m:Int)).toNat=i+m:=by omega
   have e10:¬(i+m=i):=by omega
   have e11:i+m-i=m:=by omega
   simp only[Kb,hkc,hm]at hy
   gi_wp2
   refine⟨(fun h=>by cases h),hR.mono ?_⟩
   rintro e W3 (⟨rfl,hJ3⟩|⟨rfl,hJx3⟩)
   ·obtain⟨r1,r2⟩:=hB _ W3 hJ3
    have e12:IntKind.i64.wrap ((i:Int)+(c:Int))=(i:Int)+(c:Int):=by rw[IntKind.wrap_i64];omega
    gi_wp2
    go_roundw
    case rel=>exact⟨k+1,hlt,by rw[eF,hkc];simp,hJ3⟩
    case measure=>
     have:k*c+c≤N*c:=by rw[<-eF];exact bB _ hlt
     simp[intOf];omega
   ·gi_wp2
    refine bodyPost_ret (results_none rfl _ _ _) rfl ?_
    exact⟨⟨_,rfl⟩,.inr ⟨k,hlt,hJx3⟩⟩
  ·obtain rfl:k=N:=by omega
   have e1:¬(((k*c:Nat):Int)<(len:Int)):=by omega
   gi_wp2
   go_end0
   exact⟨⟨_,rfl⟩,.inl hJs⟩
end
end Go.Ideal
namespace Go.Ideal
open Go.RowKit
def Rk (Lp D:Nat) (o:Obj) (I:World->Prop) (Ix:Code->World->Prop):Exit->Act->World->Prop
 |.normal,_,W=>W.heap[Lp]? = some o/\W.heap[D]? = some (.deferred (some []))/\∀o',I (W.putObj Lp o')
 |.ret,_,W=>W.heap[Lp]? = some o/\W.heap[D]? = some (.deferred (some []))/\∀o',Ix .ret (W.putObj Lp o')
 |.exit id,_,W=>W.heap[Lp]? = some o/\W.heap[D]? = some (.deferred (some []))/\∀o',Ix (.exit id) (W.putObj Lp o')
 |_,_,_=>False
theorem Lu {W:World} {i j:Nat} (o:Obj) (h:i≠j):(W.putObj i o).heap[j]? = W.heap[j]?:=World.putObj_heap_other (by omega)
theorem Sp {P:Program} {g:Operand} {p:Tmp} {assign body:Code} {Q:Exit->Act->World->Prop} {a:Act} {w:World} {n gf:Nat} {lb:Array Value}
 (hg:a.eval g = .func (.func gf) #[] lb) (hf:Yx P gf) (N:Nat) (enc:Nat->Value) (I:Nat->World->Prop) (Ix:Code->World->Prop) (C:World->Prop)
 (hC:∀k W,I k W->C W) (hdr:∀k W,I k W->I k W.drew)
 (hiter:∀(J Jx:Nat->World->Prop) (W:World),(∀k W,J k W->J k W.drew)->(∀k W,J k W->C W)->
   (∀k W,J k W->k<N->YieldAt Fence.wide (n-1-1) P (w.heap.size+1) #[enc k] W fun e W'=>(e = .returned (.bool true)/\J (k+1) W')\/(e = .returned (.bool false)/\Jx k W'))->J 0 W->
   CallsIn Fence.wide (n-1) P gf (#[.func (.yield (w.heap.size+1)) #[] #[]]++lb) W fun e W'=>(∃v,e = .returned v)/\(J N W'\/∃k,k<N/\Jx k W'))
 (h0:∀r,I 0 ((w.alloc (.deferred (some []))).alloc (.loop r)))
 (hround:∀k W r,I k W->k<N->W.heap[w.heap.size+1]? = some (.loop r)->W.heap[w.heap.size]? = some (.deferred (some []))->
   assign.wpIn (qO (some (w.heap.size+1))) (n-1-1) P (Exit.then (fun a₁ w₁=>w₁.heap[w.heap.size+1]? = some (.loop r)/\∀o,body.wpIn (qO (some (w.heap.size+1))) (n-1-1) P (Rk (w.heap.size+1) w.heap.size o (I (k+1)) Ix) a₁ (w₁.putObj (w.heap.size+1) o)) (fun _ _ _=>False)) { tmps:=a.tmps.setIfInBounds p (enc k),defers:=[] } W)
 (hdone:∀W o,I N W->w.heap.size+1<W.heap.size->W.heap[w.heap.size]? = some (.deferred (some []))->Q .normal { a with defers:={ target:=.collected w.heap.size,args:=#[] } ::a.defers } (W.putObj (w.heap.size+1) o))
 (hstop:∀c W o,Ix c W->w.heap.size+1<W.heap.size->W.heap[w.heap.size]? = some (.deferred (some []))->c.wpIn (qO none) n P Q { a with defers:={ target:=.collected w.heap.size,args:=#[] } ::a.defers } (W.putObj (w.heap.size+1) o)):
 (Code.rangeFunc g #[p] assign body).wpIn (qO none) n P Q a w:=by
 refine wpIn_rangeFunc fun fn _=>?_
 let rec0:LoopState->Option Code->Loop:=fun st pe=>{ state:=st,pending:=pe,fn,tmps:=a.tmps,params:=#[p],assign,body,defers:=w.heap.size }
 let W1:=(w.alloc (.deferred (some []))).alloc (.loop (rec0 .ready none))
 have hL1:W1.heap[w.heap.size+1]? = some (.loop (rec0 .ready none)):=by
  have:=World.alloc_heap_new (w.alloc (.deferred (some []))) (.loop (rec0 .ready none));rwa [World.size_alloc]at this
 have hK1:W1.heap[w.heap.size]? = some (.deferred (some [])):=(Below.heap_alloc _ _ _ (by simp)).trans (World.alloc_heap_new w _)
 refine⟨w.heap.size+1,[{ target:=.collected w.heap.size,args:=#[] }],W1,{ target:=.fn (.func gf) lb,args:=#[.func (.yield (w.heap.size+1)) #[] #[]] },W1,gf,#[.func (.yield (w.heap.size+1)) #[] #[]]++lb,W1,run_enterLoop_outer _ _ _ _ _,?_,(fun _ _=>trivial),?_,(fun h=>by cases h),?_⟩
 ·simp only[resolve,hg]
  simp[go_sem]
 ·have:=pP (P:=P) (w:=W1) (args:=#[.func (.yield (w.heap.size+1)) #[] #[]]++lb) hf
  simp[invoke,go_sem,this]
 refine(hiter (fun k W=>I k W/\W.heap[w.heap.size+1]? = some (.loop (rec0 .ready none))/\W.heap[w.heap.size]? = some (.deferred (some [])))
  (fun k W=>∃c,Ix c W/\W.heap[w.heap.size+1]? = some (.loop (rec0 .done (some c)))/\W.heap[w.heap.size]? = some (.deferred (some []))) W1
  (fun k W h=>⟨hdr k W h.1,h.2⟩) (fun k W h=>hC k W h.1) ?_ ⟨h0 _,hL1,hK1⟩).mono ?_
 ·
  rintro k W ⟨hi,hl,hk⟩ hlt
  have hy:=run_yield (P:=P) (args:=#[enc k]) hl rfl
  have hz:((rec0 .ready none).params.zip #[enc k]).foldl (fun tmps (t,a)=>tmps.setIfInBounds t a) (rec0 .ready none).tmps=a.tmps.setIfInBounds p (enc k):=by simp[rec0]
  rw[hz]at hy
  refine⟨fn,_,assign,body,hy,roundIn_of_wpIn trivial (wpIn_mono (hround k W _ hi hlt hl hk) ?_)⟩
  rintro e a1 W1' h
  cases e with
  |normal=>
   obtain⟨h1,h2⟩:=h
   refine⟨_,run_beginRound h1 rfl,wpIn_mono (h2 _) ?_⟩
   have fin:∀(jump:Option Code) (W3:World),W3.heap[w.heap.size+1]? = some (.loop { rec0 .ready none with state:=.busy })->W3.heap[w.heap.size]? = some (.deferred (some []))->
    (Instr.endRound (w.heap.size+1) jump).run P W3 = .ok (.bool jump.isNone) (W3.putObj (w.heap.size+1) (.loop (rec0 (if jump.isNone then .ready else .done) jump)))/\
    (W3.putObj (w.heap.size+1) (.loop (rec0 (if jump.isNone then .ready else .done) jump))).heap[w.heap.size+1]? = some (.loop (rec0 (if jump.isNone then .ready else .done) jump))/\
    (W3.putObj (w.heap.size+1) (.loop (rec0 (if jump.isNone then .ready else .done) jump))).heap[w.heap.size]? = some (.deferred (some [])):=fun jump W3 h3 h4=>
    ⟨run_endRound jump h3,World.putObj_heap_same (dY.1 h3).1,(Lu _ (by omega)).trans h4⟩
   rintro e a3 W3 hp
   cases e with
   |normal=>
    obtain⟨q1,q2,q3⟩:=hp
    obtain⟨f1,f2,f3⟩:=fin none W3 q1 q2
    exact⟨_,_,f1,.inl ⟨rfl,q3 _,f2,f3⟩⟩
   |ret=>
    obtain⟨q1,q2,q3⟩:=hp
    obtain⟨f1,f2,f3⟩:=fin (some .ret) W3 q1 q2
    exact⟨_,_,f1,.inr ⟨rfl,.ret,q3 _,f2,f3⟩⟩
   |exit id=>
    obtain⟨q1,q2,q3⟩:=hp
    obtain⟨f1,f2,f3⟩:=fin (some (.exit id)) W3 q1 q2
    exact⟨_,_,f1,.inr ⟨rfl,.exit id,q3 _,f2,f3⟩⟩
   |goto t=>exact hp.elim
   |panic ch=>exact hp.elim
   |outgrown=>exact hp.elim
  |ret=>exact h.elim
  |exit id=>exact h.elim
  |goto t=>exact h.elim
  |panic ch=>exact h.elim
  |outgrown=>exact h.elim
 ·
  rintro e W2 ⟨⟨v,rfl⟩,(⟨hi,hl,hk⟩|⟨k,hlt,c,hi,hl,hk⟩)⟩
  ·exact⟨none,_,run_endLoop hl (by simp[rec0]),hdone _ _ hi (dY.1 hl).1 hk⟩
  ·exact⟨some c,_,run_endLoop hl (by simp[rec0]),hstop c _ _ hi (dY.1 hl).1 hk⟩
end Go.Ideal
namespace Go.Ideal
open Go.RowKit
def Eu (F:Fence) (n:Nat) (P:Program) (ops:Array Oper) (Q:Exit->Act->World->Prop) (r:List Nat):Exit->Act->World->Prop
 |.normal,a,w=>wpOpsIn F n P ops Q r a w
 |e,a,w=>Q e a w
theorem wP {F:Fence} {n:Nat} {P:Program} {ops:Array Oper} {Q:Exit->Act->World->Prop} {r:List Nat} (h:LetsOut (Eu F n P ops Q r)):LetsOut Q:=by
 unfold LetsOut at h |-
 exact h
theorem Ey {F:Fence} {n:Nat} {P:Program} {ops:Array Oper} {Q:Exit->Act->World->Prop} {r:List Nat} {o:Oper} {a:Act} {next next':Act->World->Prop} (hn:∀a w,next a w->next' a w) {x:Result Next}
 (h:o.uponIn F n P a next (Eu F n P ops Q r) x):o.uponIn F n P a next' Q x:=by
 cases x with
 |ok y w'=>
  cases y<;>simp only[Oper.uponIn]at h |-
  case enter f args=>
   exact⟨h.1,CallsIn.mono h.2 (fun e w'' he=>by cases e<;>first|exact hn _ _ he|exact he|exact wP he)⟩
  case row=>exact⟨h.1,RowsIn.mono h.2 (fun _ _ he=>hn _ _ he)⟩
  case round=>exact⟨h.1,RoundIn.mono h.2 (fun e w'' he=>by cases e<;>first|exact hn _ _ he|exact he|exact wP he)⟩
  all_goals exact hn _ _ h
 |halt y w'=>cases y<;>simp only[Oper.uponIn]at h |-<;>exact h
theorem pT {F:Fence} {n:Nat} {P:Program} {ops:Array Oper} {Q:Exit->Act->World->Prop} {r:List Nat}:∀{l:List Nat} {a:Act} {w:World},wpOpsIn F n P ops (Eu F n P ops Q r) l a w->wpOpsIn F n P ops Q (l++r) a w
 |[],a,w,h=>h
 |i::l,a,w,h=>by
  simp only[cG,wpOpsIn]at h |-
  cases ho:ops[i]? with
  |none=>simp only[ho]at h;exact pT h
  |some o=>
   simp only[ho]at h
   split at h
   ·rename_i hw
    dsimp only
    rw[if_pos hw]
    exact⟨h.1,Ey (fun a w=>pT) h.2⟩
   ·rename_i hw
    dsimp only
    rw[if_neg hw]
    exact⟨h.1,pT h.2⟩
section
variable {K:Kx} {h:aN} {H H1:gC} {σ:Fr} {a:Array Value}
theorem Nz {M:Nat->Prop} (hs:H.size≤H1.size) (hsame:∀B,B<H.size->¬M B->H1[B]? = H[B]?) (hst:∀t B,K.st t B->H1[B]? = H[B]?):oF K h H M K h H1 M where
 len:=aK _
 gen:=fun b k' _ e=>⟨k',e,aK _,fun _=>⟨rfl,rfl⟩⟩
 st:=fun t B hB=>⟨hB,hst t B hB⟩
 st':=fun t B hB _=>hB
 size:=hs
 fr:=hsame
 mn:=fun B _ hm=>hm
 nst:=fun t B hB=>.inl hB
theorem By (g:dK K h H σ a) (hs:H.size≤H1.size) (hm:∀B,fZ K h σ a B->H1[B]? = H[B]?) (hst:∀t B,K.st t B->H1[B]? = H[B]?):dK K h H1 σ a:=by
 have E:oF K h H (fun _=>True) K h H1 (fun _=>True):=Nz hs (fun B _ hn=>absurd trivial hn) hst
 refine⟨⟨fun b' k' hk'=>?_,g.inv.inj,g.inv.sub,fun x hx=>bM (g.inv.lt x hx) hs⟩,⟨fun t v ht hgo=>?_,fun t cs ht=>?_,g.fr.lptr,g.fr.sep⟩⟩
 ·obtain⟨hp',l',f1,f2,CS',el',fr',f3,f4,f5,f6⟩:=g.inv.blk b' k' hk'
  have hmm:fZ K h σ a l'.B:=.inl ⟨b',k',l',hk',f1,rfl⟩
  exact⟨hp',l',f1,f2,CS',el',fr',(hm _ hmm).trans f3,f4,f5,f6.ext E⟩
 ·obtain⟨x,h1,h2⟩:=g.fr.val t v ht hgo
  exact⟨x,h1,h2.ext E⟩
 ·obtain⟨B,ob,h1,h2,h4,h5,h6⟩:=g.fr.box t cs ht
  exact⟨B,ob,h1,(hm _ (.inr ⟨t,cs,ht,h1⟩)).trans h2,h4.ext E,h5,h6⟩
theorem Il (g:dK K h H σ a) {t:Nat} (ht:lK≤t) (v:IV) (hf:bF σ t=true) (hb:∀cs,σ.get t≠some (.box cs)):dK K h H (σ.put t (.val v)) a:=by
 refine⟨g.inv,⟨fun u x hu hgo=>?_,fun u cs hu=>?_,fun u s off hu=>?_,fun s u cs cs' B h1 h2 h3 h4=>?_⟩⟩
 ·rw[bL,if_neg (by omega)]at hu
  exact g.fr.val u x hu hgo
 ·rw[bL]at hu
  split at hu
  ·cases hu
  ·exact g.fr.box u cs hu
 ·rw[bL]at hu
  split at hu
  ·cases hu
  ·obtain⟨B,cs,h1,h2,h3⟩:=g.fr.lptr u s off hu
   refine⟨B,cs,?_,h2,h3⟩
   rw[bL]
   split
   ·rename_i e;subst e;exact absurd h1 (hb cs)
   ·exact h1
 ·rw[bL]at h1 h2
  split at h1
  ·cases h1
  ·split at h2
   ·cases h2
   ·exact g.fr.sep s u cs cs' B h1 h2 h3 h4
theorem Ic {t:Nat} {v:IV} (hb:∀cs,σ.get t≠some (.box cs)) {B:Nat}:fZ K h (σ.put t (.val v)) a B↔fZ K h σ a B:=by
 unfold fZ oN
 constructor
 ·rintro (ho|⟨u,cs,h1,h2⟩)
  ·exact .inl ho
  ·rw[bL]at h1
   split at h1
   ·cases h1
   ·exact .inr ⟨u,cs,h1,h2⟩
 ·rintro (ho|⟨u,cs,h1,h2⟩)
  ·exact .inl ho
  ·refine .inr ⟨u,cs,?_,h2⟩
   rw[bL]
   split
   ·rename_i e;subst e;exact absurd h1 (hb cs)
   ·exact h1
theorem fY {L:Nat->Prop} (g:dK K h H σ a) {t:Nat} (ht:lK≤t) (v:IV) (hf:bF σ t=true) (hb:∀cs,σ.get t≠some (.box cs)):jC L K h H σ a K h H (σ.put t (.val v)) a:=by
 have R:=oF.refl K h H (fZ K h σ a)
 exact⟨⟨R.len,R.gen,R.st,R.st',R.size,R.fr,fun B _ hm=>(Ic hb).1 hm,R.nst⟩,Il g ht v hf hb,rfl,fun _ _=>rfl⟩
theorem Mb {a3:Array Value} (g:dK K h H σ a3) (hs:∀t v,σ.get t=some v->t<lK->a[t]? = a3[t]?) (hb:∀t v,σ.get t=some v->lK≤t->∃iv,v = .val iv):dK K h H σ a:=by
 have lo:∀t v,σ.get t=some v->(∀iv,v≠.val iv)->t<lK:=fun t v e hn=>by
  rcases iQ t lK with h|h
  ·exact h
  ·obtain⟨iv,rfl⟩:=hb t v e h;exact absurd rfl (hn iv)
 refine⟨g.inv,⟨fun t v ht hgo=>?_,fun t cs ht=>?_,fun t s off ht=>?_,fun s t cs cs' B h1 h2 h3 h4=>?_⟩⟩
 ·obtain⟨x,h1,h2⟩:=g.fr.val t v ht hgo
  exact⟨x,(hs t _ ht hgo).trans h1,h2⟩
 ·obtain⟨B,o,h1,h2⟩:=g.fr.box t cs ht
  exact⟨B,o,(hs t _ ht (lo t _ ht (by intro iv e;cases e))).trans h1,h2⟩
 ·obtain⟨B,cs,h1,h2,h3⟩:=g.fr.lptr t s off ht
  exact⟨B,cs,h1,(hs s _ h1 (lo s _ h1 (by intro iv e;cases e))).trans h2,(hs t _ ht (lo t _ ht (by intro iv e;cases e))).trans h3⟩
 ·refine g.fr.sep s t cs cs' B h1 h2 ?_ ?_
  ·rw[<-hs s _ h1 (lo s _ h1 (by intro iv e;cases e))];exact h3
  ·rw[<-hs t _ h2 (lo t _ h2 (by intro iv e;cases e))];exact h4
theorem Br {a3:Array Value} (hs:∀t v,σ.get t=some v->t<lK->a[t]? = a3[t]?) (hb:∀t v,σ.get t=some v->lK≤t->∃iv,v = .val iv) {B:Nat}:fZ K h σ a B↔fZ K h σ a3 B:=by
 have lo:∀t cs,σ.get t=some (.box cs)->t<lK:=fun t cs e=>by
  rcases iQ t lK with h|h
  ·exact h
  ·obtain⟨iv,e2⟩:=hb t _ e h;cases e2
 unfold fZ oN
 constructor
 ·rintro (ho|⟨u,cs,h1,h2⟩)
  ·exact .inl ho
  ·exact .inr ⟨u,cs,h1,by rw[<-hs u _ h1 (lo u cs h1)];exact h2⟩
 ·rintro (ho|⟨u,cs,h1,h2⟩)
  ·exact .inl ho
  ·exact .inr ⟨u,cs,h1,by rw[hs u _ h1 (lo u cs h1)];exact h2⟩
end
end Go.Ideal
namespace Go.Ideal
section
variable {call:Nat->List IV->aN->Option (IV×aN)} {opn:Nat->Bool}
def tS (ts g0 g1 g2 x1 x2:Nat):List cH:=[⟨x1,none,some g1,.len false (.t ts)⟩,⟨x2,none,some g2,.bin .lss (.t g0) (.t g1)⟩]
def xG (ts tp g0 g1 g3 g4 x1 x2 x3 x4 sz:Nat) (c:Int):List cH:=[⟨x1,none,some g3,.bin .sub (.t g1) (.t g0)⟩,⟨x2,none,some g4,.mn (.c (.int .i64 c)) (.t g3)⟩,⟨x3,none,some g1,.bin .add (.t g0) (.t g4)⟩,⟨x4,none,some tp,.slL sz (.t ts) (some (.t g0)) (some (.t g1)) (some (.t g1))⟩]
theorem mI {σ:Fr} {t:Nat} {v:IV} (h:σ.get t=some (.val v)):(SX.t t).val σ = some v:=by
 simp only[SX.val,SX.ev,h]
theorem tV {σ:Fr} {t:Nat} {v:IV}:(SX.t t).val (σ.put t (.val v))=some v:=mI (by rw[bL,if_pos rfl])
theorem dW {σ:Fr} {t u:Nat} {v:SV} (h:t≠u):(σ.put t v).get u = σ.get u:=by rw[bL,if_neg h]
theorem Ot {σ:Fr} {h:aN} {ts g0 g1 g2 x1 x2:Nat} {i:Int} {iv:IV} (h0:σ.get g0=some (.val (.int .i64 i))) (ht:σ.get ts=some (.val iv)) (d1:g1≠g0) {s0:St}
 (e:dL call opn (tS ts g0 g1 g2 x1 x2) (σ,h)=some s0):∃len:Nat,lenOf iv=some len/\s0=((σ.put g1 (.val (.int .i64 len))).put g2 (.val (.bool (decide (i<(len:Int))))),h):=by
 simp only[tS,dL,fL,wanted,aB,if_true,aA,aT,mI ht,aD]at e
 obtain⟨s1,⟨r,hr,hp⟩,s2,⟨r2,⟨a,ha,b,hb,v,hv,rfl⟩,hp2⟩,rfl⟩:=e
 obtain⟨len,hlen,hr'⟩:∃len,lenOf iv=some len/\r=(.val (.int .i64 (len:Nat)),(σ,h)):=by
  cases iv<;>simp only[aA,aD]at hr<;>first|(obtain⟨n,hn,rfl⟩:=hr;exact⟨n,hn,rfl⟩)|(cases hr)
 subst hr'
 simp only[gL]at hp
 split at hp
 ·injection hp with hp;subst hp
  rw[mI (by rw[dW d1];exact h0)]at ha
  rw[tV]at hb
  injection ha with ha;injection hb with hb;subst ha;subst hb
  simp only[gL]at hp2
  split at hp2
  ·injection hp2 with hp2;subst hp2
   refine⟨len,hlen,?_⟩
   simp only[bin,fW,mX,decide_true,lA,if_true,aD]at hv
   subst hv;rfl
  ·cases hp2
 ·cases hp
def pR (h:aN) (sz:Nat) (iv:IV) (l r:Nat):Option IV:=match iv with
 |.ro b es=>if l≤r/\r≤r/\r≤es.length/\es.all (·.length=sz) then some (.ro b ((es.drop l).take (r-l))) else none
 |.sl b tot off _ cap=>(hget h b tot).bind fun k=>if l≤r/\r≤r/\r≤cap/\k.sz=sz then some (.sl b tot (off+l) (r-l) (r-l)) else none
 |_=>none
theorem Oq {σ:Fr} {h:aN} {ts tp g0 g1 g3 g4 x1 x2 x3 x4 sz len i c:Nat} {iv:IV} (h0:σ.get g0=some (.val (.int .i64 (i:Int)))) (h1:σ.get g1=some (.val (.int .i64 (len:Int)))) (ht:σ.get ts=some (.val iv)) (hl:lenOf iv=some len)
 (hs:∀b,iv≠.str b) (hi:i<len) (hc:1≤c) (h63:len+c<9223372036854775807) (d30:g3≠g0) (d31:g3≠g1) (d3t:g3≠ts) (d40:g4≠g0) (d41:g4≠g1) (d4t:g4≠ts) (d43:g4≠g3) (d10:g1≠g0) (d1t:g1≠ts) {s0:St}
 (e:dL call opn (xG ts tp g0 g1 g3 g4 x1 x2 x3 x4 sz (c:Int)) (σ,h)=some s0):∃pv,pR h sz iv i (i+min c (len-i))=some pv/\
   s0=((((σ.put g3 (.val (.int .i64 ((len-i:Nat):Int)))).put g4 (.val (.int .i64 ((min c (len-i):Nat):Int)))).put g1 (.val (.int .i64 ((i+min c (len-i):Nat):Int)))).put tp (.val pv),h):=by
 have step:∀{σ:Fr} {x t:Nat} {op:gQ} {v:IV} {rest:List cH},aT call opn (some t) op (σ,h)=some (.val v,(σ,h))->dL call opn (⟨x,none,some t,op⟩::rest) (σ,h)=some s0->dL call opn rest (σ.put t (.val v),h)=some s0:=by
  intro σ x t op v rest ho e
  simp only[dL,fL,wanted,aB,if_true,ho,gL]at e
  split at e
  ·simpa using e
  ·simp at e
 simp only[xG]at e
 have w1:IntKind.i64.wrap ((len:Int)-(i:Int))=((len-i:Nat):Int):=by rw[IntKind.wrap_i64];omega
 have e:=step (v:=.int .i64 ((len-i:Nat):Int)) (by
  simp only[aT,mI h1,mI h0,aB,bin,fW,mX,decide_true,lA,if_true,w1]) e
 have m1:(if ((len-i:Nat):Int)<(c:Int) then ((len-i:Nat):Int) else (c:Int))=((min c (len-i):Nat):Int):=by
  by_cases q:len-i<c
  ·rw[if_pos (by omega),Ro (by omega)]
  ·rw[if_neg (by omega),iK (by omega)]
 have e:=step (v:=.int .i64 ((min c (len-i):Nat):Int)) (by
  simp only[aT,tV,SX.val,SX.ev,aB,bL,if_true,m1]) e
 generalize hm:min c (len-i)=m at *
 have w2:IntKind.i64.wrap ((i:Int)+(m:Int))=((i+m:Nat):Int):=by rw[IntKind.wrap_i64];omega
 have e:=step (v:=.int .i64 ((i+m:Nat):Int)) (by
  have q:(SX.t g0).val ((σ.put g3 (.val (.int .i64 ((len-i:Nat):Int)))).put g4 (.val (.int .i64 (m:Int))))=some (.int .i64 (i:Int)):=mI (by rw[dW d40,dW d30];exact h0)
  simp only[aT,q,tV,aB,bin,fW,mX,decide_true,lA,if_true,w2]) e
 have qt:∀{σ':Fr},σ'=(((σ.put g3 (.val (.int .i64 ((len-i:Nat):Int)))).put g4 (.val (.int .i64 (m:Int)))).put g1 (.val (.int .i64 ((i+m:Nat):Int))))->(SX.t ts).val σ'=some iv/\(SX.t g0).val σ'=some (.int .i64 (i:Int))/\(SX.t g1).val σ'=some (.int .i64 ((i+m:Nat):Int)):=by
  rintro σ' rfl
  exact⟨mI (by rw[dW d1t,dW d4t,dW d3t];exact ht),mI (by rw[dW d10,dW d40,dW d30];exact h0),tV⟩
 obtain⟨q1,q2,q3⟩:=qt rfl
 have nz:¬(i=0/\i+m=0/\i+m=0):=by omega
 simp only[dL,fL,wanted,aB,if_true,aA,aT,q1,q2,q3,fQ,kB,aY,aP,hl]at e
 obtain⟨s1,⟨r,hr,hp⟩,he⟩:=e
 simp only[aD]at he;subst he
 have fin:∃pv,pR h sz iv i (i+m)=some pv/\r=(.val pv,((((σ.put g3 (.val (.int .i64 ((len-i:Nat):Int)))).put g4 (.val (.int .i64 (m:Int)))).put g1 (.val (.int .i64 ((i+m:Nat):Int)))),h)):=by
  cases iv<;>simp only[aA]at hr<;>try (cases hr;done)
  case nils=>
   obtain⟨a1,ha1,a2,ha2,hr⟩:=hr
   rw[q3]at ha1;injection ha1 with ha1;subst ha1
   simp only[aY,if_true,aP,aD]at ha2;subst ha2
   rw[if_neg nz]at hr
   cases hr
  case esl=>
   obtain⟨a1,ha1,a2,ha2,hr⟩:=hr
   rw[q3]at ha1;injection ha1 with ha1;subst ha1
   simp only[aY,if_true,aP,aD]at ha2;subst ha2
   rw[if_neg nz]at hr
   cases hr
  case ro b es=>
   obtain⟨a1,ha1,a2,ha2,hr⟩:=hr
   rw[q3]at ha1;injection ha1 with ha1;subst ha1
   simp only[aY,if_true,aP,aD]at ha2;subst ha2
   rw[if_neg nz]at hr
   split at hr
   ·rename_i hc'
    injection hr with hr
    exact⟨_,by rw[pR,if_pos hc'],hr.symm⟩
   ·cases hr
  case sl b tot off len' cap=>
   obtain⟨a1,ha1,a2,ha2,hr⟩:=hr
   rw[q3]at ha1;injection ha1 with ha1;subst ha1
   simp only[aY,if_true,aP,aD]at ha2;subst ha2
   rw[if_neg nz]at hr
   rw[aA]at hr
   obtain⟨k,hk,hr⟩:=hr
   split at hr
   ·rename_i hc'
    injection hr with hr
    refine⟨_,?_,hr.symm⟩
    simp only[pR,hk,aB]
    rw[if_pos hc']
   ·cases hr
 obtain⟨pv,p1,rfl⟩:=fin
 refine⟨pv,p1,?_⟩
 simp only[gL]at hp
 split at hp
 ·injection hp with hp;exact hp.symm
 ·cases hp
theorem Lv {K:Kx} {H:gC} {h:aN} {iv pv:IV} {sz l r len cap:Nat} {ad:Addr} (ra:bS K H h iv (.slice (some ad) len cap)) (hl0:lenOf iv=some len) (hp:pR h sz iv l r=some pv) (hlr:l<r) (hr:r≤len):
 bS K H h pv (.slice (some (ad.add (l*sz))) (r-l) (r-l)):=by
 generalize hy:Value.slice (some ad) len cap=y at ra
 cases ra with
 |ro bor es ad cap sz' cs hcp hsz hone hst hcs hv=>
  injection hy with e1 e2 e3
  injection e1 with e1;subst e1
  simp only[pR]at hp
  split at hp
  case isFalse=>cases hp
  rename_i hc
  obtain⟨hc1,hc2,hc4,hc3⟩:=hc
  injection hp with hp;subst hp
  have hlen:((es.drop l).take (r-l)).length=r-l:=by simp;omega
  have hall:∀e∈es,e.length=sz:=by simpa using hc3
  have hmem:∀e∈(es.drop l).take (r-l),e∈es:=fun e he=>cU (bN he)
  have hidx:∀i (hi:i<((es.drop l).take (r-l)).length),∃h':l+i<es.length,((es.drop l).take (r-l))[i]=es[l+i]:=fun i hi=>by
   rw[hlen]at hi
   exact⟨by omega,by simp⟩
  have key:bS K H h (.ro bor ((es.drop l).take (r-l))) (.slice (some (ad.add (l*sz))) ((es.drop l).take (r-l)).length (r-l)):=by
   by_cases hne:(es.drop l).take (r-l)=[]
   ·rw[hne]
    exact bS.ro bor [] _ _ 0 (fun _ _=>undef) (fO _) (by simp) (by simp) (fun h=>absurd rfl h) (fun i j hi=>absurd hi (by simp)) (fun i j hi=>absurd hi (by simp))
   ·have hes:es≠[]:=by rintro rfl;simp at hne
    obtain⟨h1,h2⟩:=hst hes
    have hz:sz'=sz:=by
     obtain⟨e0,he0⟩:=vF es hes
     rw[<-hsz e0 he0,hall e0 he0]
    subst hz
    obtain⟨B,oo,sp⟩:=ad
    simp only at h2;subst h2
    rw[fM]
    refine .ro bor _ ⟨B,oo+l*sz',none⟩ _ sz' (fun i j=>cs (l+i) j) (by omega) (fun e he=>hsz e (hmem e he)) (fun e he=>hone e (hmem e he)) (fun _=>⟨h1,rfl⟩) (fun i j hi hj=>?_) fun i j hi hj=>?_
    ·obtain⟨h',e'⟩:=hidx i hi
     have hj':j<(es[l+i]).length:=by rw[<-e'];exact hj
     have:=hcs (l+i) j h' hj'
     simp only at this |-
     rw[show oo+l*sz'+i*sz'+j=oo+(l+i)*sz'+j by rw[cJ];omega]
     exact this
    ·obtain⟨h',e'⟩:=hidx i hi
     have hj':j<(es[l+i]).length:=by rw[<-e'];exact hj
     have:=hv (l+i) j h' hj'
     simp only[e']
     exact this
  rw[hlen]at key
  exact key
 |sl b tot off len1 cap1 ad cap' hb hlen hl=>
  injection hy with e1 e2 e3
  injection e1 with e1;subst e1
  simp only[pR,aA]at hp
  obtain⟨k,hk,hp⟩:=hp
  split at hp
  case isFalse=>cases hp
  rename_i hc
  obtain⟨hc1,hc2,hc4,hc3⟩:=hc
  injection hp with hp;subst hp
  obtain⟨q1,q2,q3,q4,lc,q5,q6,q7⟩:=hl k hk
  refine .sl _ _ _ _ _ _ _ hb (by omega) fun k' hk'=>?_
  rw[hk]at hk';injection hk' with hk';subst hk'
  refine⟨by omega,by omega,by omega,fun h=>rfl,lc,q5,?_,?_⟩
  ·right
   rcases q6 with q6|q6
   ·omega
   ·rw[q6,fM,hc3,cJ];congr 1;omega
  ·have:(off+l+(r-l))*k.sz≤(off+cap')*k.sz:=bB _ (by omega)
   omega
 |_=>simp[pR]at hp
end
end Go.Ideal
namespace Go.Ideal
section
variable {call:Nat->List IV->aN->Option (IV×aN)} {opn:Nat->Bool}
theorem Sw {t:Nat} {o:gQ} {s:St} {r:SV×St} (hl:bF s.1 t=false) (e:aT call opn (some t) o s=some r):aT call opn none o s=some r:=by
 cases o
 case alloc loc sz z=>
  simp only[aT]at e |-
  cases loc with
  |true=>
   simp only[if_true]at e
   split at e
   ·rename_i t' h1;injection h1 with h1;subst h1;rw[hl]at e;cases e
   ·cases e
  |false=>exact e
 case box loc x=>
  simp only[aT,aA]at e |-
  cases loc with
  |true=>
   obtain⟨v,hv,vs,hvs,e⟩:=e
   simp only[if_true]at e
   rw[hl]at e;cases e
  |false=>exact e
 case range x=>
  simp only[aT,aA]at e |-
  obtain⟨v,hv,e⟩:=e
  split at e
  ·rename_i b t' h1
   split at e
   ·rename_i h2;simp_all
   ·cases e
  ·cases e
 all_goals exact e
def xA (u:Nat) (v:IV) (σ:Fr):Prop:=σ.get u=none\/σ.get u=some (.val v)
theorem Xf {u:Nat} {v:IV} {d:Option Nat} {o:gQ} {s s1:St} {sv:SV} (hu:xA u v s.1) (e:aT call opn d o s=some (sv,s1)) (hp:∀t,d=some t->bF s1.1 t=true):xA u v s1.1:=by
 obtain⟨σ,h⟩:=s
 have fin:(s1.1 = σ\/∃s c c0,σ.get s=some (.box c0)/\s1.1 = σ.put s (.box c))->xA u v s1.1:=by
  rintro (h1|⟨s,c,c0,h1,h2⟩)
  ·rw[h1];exact hu
  ·rw[h2]
   unfold xA
   rw[bL]
   split
   ·rename_i he;subst he;rcases hu with hu|hu<;>(simp only at hu;rw[h1]at hu;cases hu)
   ·exact hu
 by_cases hd:∀t,d=some t->bF σ t=true
 ·exact fin (zH hd e)
 ·obtain⟨t,hd⟩:=Classical.not_forall.1 hd
  obtain⟨h1,h2⟩:=Classical.not_imp.1 hd
  subst h1
  exact fin (zH (by intro t ht;cases ht) (Sw (by simpa using h2) e))
theorem Jz {u:Nat} {v:IV} {d:Option Nat} {sv:SV} {s s1:St} (hu:xA u v s.1) (hd:d≠some u) (e:gL s d sv=some s1):xA u v s1.1:=by
 cases d with
 |none=>simp only[gL,aD]at e;subst e;exact hu
 |some t=>
  simp only[gL]at e
  split at e
  ·injection e with e;subst e
   unfold xA
   rw[bL,if_neg (fun he=>hd (by rw[he]))]
   exact hu
  ·cases e
theorem Qb {u:Nat} {v:IV} {it:cH} {s s1:St} (hu:xA u v s.1) (hd:it.dst≠some u) (e:fL call opn it s=some s1):xA u v s1.1:=by
 simp only[fL,aA]at e
 obtain⟨w,hw,e⟩:=e
 split at e
 ·simp only[aA]at e
  obtain⟨r,hr,e⟩:=e
  refine Jz (Xf hu hr fun t ht=>?_) hd e
  rw[ht]at e
  simp only[gL]at e
  split at e
  ·assumption
  ·cases e
 ·exact Jz hu hd e
theorem xH {u:Nat} {v:IV}:∀{its:List cH} {s s1:St},xA u v s.1->(∀it∈its,it.dst≠some u)->dL call opn its s=some s1->xA u v s1.1
 |[],s,s1,hu,_,e=>by simp only[dL,aD]at e;subst e;exact hu
 |it::r,s,s1,hu,hd,e=>by
  simp only[dL,aA]at e
  obtain⟨s0,h0,e⟩:=e
  exact xH (Qb hu (hd it (cE ..)) h0) (fun it' h=>hd it' (bT _ h)) e
theorem Qz {u:Nat} {v:IV}:∀{bs:List DB} {s s1:St},xA u v s.1->(∀b∈bs,∀it∈b.w::b.qs,it.dst≠some u)->pI call opn bs s=some s1->xA u v s1.1
 |[],s,s1,hu,_,e=>by simp only[pI,aD]at e;subst e;exact hu
 |b::r,s,s1,hu,hd,e=>by
  simp only[pI,aA]at e
  obtain⟨s0,h0,e⟩:=e
  split at e
  ·simp only[aA]at e
   obtain⟨s2,h2,e⟩:=e
   exact Qz (xH (Qb hu (hd b (cE ..) _ (cE ..)) h0) (fun it h=>hd b (cE ..) it (bT _ h)) h2) (fun b' h=>hd b' (bT _ h)) e
  ·cases e
theorem uA {u:Nat} {v:IV} {σ:Fr} {l:List Nat} (hu:xA u v σ):xA u v (σ.keep l):=by
 unfold xA
 cases hk:(σ.keep l).get u with
 |none=>exact .inl rfl
 |some x=>
  have:=(kH σ l u hk).1
  rcases hu with hu|hu
  ·rw[hu]at this;cases this
  ·rw[hu]at this;exact .inr this.symm
theorem Vo {u:Nat} {v:IV} (hp:u≠qU) {n:Nat}:∀{sc:dJ} {s s1:St} {ex:Ex},xA u v s.1->u∉sc.dsts->fB call opn (fun g s=>dO g n s) sc s=some (ex,s1)->xA u v s1.1:=by
 intro sc
 induction sc with
 |prim p=>
  intro s s1 ex hu hd e
  simp only[fB,aA,aD,aM]at e
  obtain⟨xs,ha,r,hr,_,rfl⟩:=e
  unfold xA
  simp only
  rw[bL,if_neg (Ne.symm hp)]
  exact hu
 |skip=>intro s s1 ex hu hd e;simp only[fB,aD,aM]at e;rw[<-e.2];exact hu
 |exit id=>intro s s1 ex hu hd e;simp only[fB,aD,aM]at e;rw[<-e.2];exact hu
 |ret=>intro s s1 ex hu hd e;simp only[fB,aD,aM]at e;rw[<-e.2];exact hu
 |bad=>intro s s1 ex hu hd e;simp[fB]at e
 |reg its live=>
  intro s s1 ex hu hd e
  simp only[fB,aA,aD,aM]at e
  obtain⟨s0,h0,_,rfl⟩:=e
  exact uA (xH hu (fun it h1 h2=>hd (iZ.2 ⟨it,h1,h2⟩)) h0)
 |drw q0 bs live=>
  intro s s1 ex hu hd e
  simp only[fB,aA,aD,aM]at e
  obtain⟨s0,h0,_,rfl⟩:=e
  simp only[zI]at h0
  split at h0
  ·simp only[aA]at h0
   obtain⟨s2,h2,h0⟩:=h0
   have hm:∀it,it∈(q0++bs.flatMap fun b=>b.w::b.qs)->it.dst≠some u:=fun it h1 h2=>hd (iZ.2 ⟨it,h1,h2⟩)
   exact uA (Qz (xH hu (fun it h=>hm it (aE.2 (.inl h))) h2) (fun b hb it h=>hm it (aE.2 (.inr (dS.2 ⟨b,hb,h⟩)))) h0)
  ·cases h0
 |seq a b iha ihb=>
  intro s s1 ex hu hd e
  simp only[dJ.dsts,aE,not_or]at hd
  simp only[fB,aA]at e
  obtain⟨⟨e0,s0⟩,h0,e⟩:=e
  have h1:=iha hu hd.1 h0
  cases e0 with
  |normal=>exact ihb h1 hd.2 e
  |exit i=>simp only[aD,aM]at e;rw[<-e.2];exact h1
  |ret=>simp only[aD,aM]at e;rw[<-e.2];exact h1
 |cond c a b iha ihb=>
  intro s s1 ex hu hd e
  simp only[dJ.dsts,aE,not_or]at hd
  simp only[fB,aA]at e
  obtain⟨v,hv,e⟩:=e
  split at e
  ·exact iha hu hd.1 e
  ·exact ihb hu hd.2 e
  ·cases e
 |block id a iha=>
  intro s s1 ex hu hd e
  simp only[fB,aA]at e
  obtain⟨⟨e0,s0⟩,h0,e⟩:=e
  have h1:=iha hu hd h0
  split at e<;>(simp only[aD,aM]at e;rw[<-e.2];exact h1)
 |loop a iha=>
  intro s s1 ex hu hd e
  simp only[fB]at e
  have key:∀(m:Nat) {s:St},xA u v s.1->dO (fB call opn (fun g s=>dO g n s) a) m s=some (ex,s1)->xA u v s1.1:=by
   intro m
   induction m with
   |zero=>intro s hu e;simp[dO]at e
   |succ m ihm=>
    intro s hu e
    simp only[dO,aA]at e
    obtain⟨⟨e0,s0⟩,h0,e⟩:=e
    have h1:=iha hu hd h0
    cases e0 with
    |normal=>exact ihm h1 e
    |exit i=>simp only[aD,aM]at e;rw[<-e.2];exact h1
    |ret=>simp only[aD,aM]at e;rw[<-e.2];exact h1
  exact key n hu e
def Kr (a b:Option (List Nat)):Option (List Nat):=a.bind fun x=>b.bind fun y=>some (x++y)
def Ve:dJ->dJ->Option (List Nat)
 |.reg _ l,.ret=>some l
 |.drw _ _ l,.ret=>some l
 |_,_=>none
def dJ.rets:dJ->Option (List Nat)
 |.seq a b=>match Ve a b with
  |some l=>some l
  |none=>Kr a.rets b.rets
 |.cond _ a b=>Kr a.rets b.rets
 |.block _ a=>a.rets
 |.loop a=>a.rets
 |.ret=>none
 |.prim _=>none
 |_=>some []
def dJ.noExit:dJ->List Nat->Bool
 |.seq a b,l=>a.noExit l&&b.noExit l
 |.cond _ a b,l=>a.noExit l&&b.noExit l
 |.block i a,l=>a.noExit (i::l)
 |.loop a,l=>a.noExit l
 |.exit i,l=>l.contains i
 |_,_=>true
theorem Bq {n:Nat}:∀{sc:dJ} {l:List Nat} {s s1:St} {i:Nat},sc.noExit l=true->fB call opn (fun g s=>dO g n s) sc s=some (.exit i,s1)->i∈l:=by
 intro sc
 induction sc with
 |prim p=>intro l s s1 i hn e;simp only[fB,aA,aD,aM]at e;obtain⟨_,_,_,_,h,_⟩:=e;cases h
 |skip=>intro l s s1 i hn e;simp only[fB,aD,aM]at e;cases e.1
 |exit id=>
  intro l s s1 i hn e;simp only[fB,aD,aM]at e
  have:=e.1;injection this with this;subst this
  simpa [dJ.noExit]using hn
 |ret=>intro l s s1 i hn e;simp only[fB,aD,aM]at e;cases e.1
 |bad=>intro l s s1 i hn e;simp[fB]at e
 |reg its live=>intro l s s1 i hn e;simp only[fB,aA,aD,aM]at e;obtain⟨_,_,h,_⟩:=e;cases h
 |drw q0 bs live=>intro l s s1 i hn e;simp only[fB,aA,aD,aM]at e;obtain⟨_,_,h,_⟩:=e;cases h
 |seq a b iha ihb=>
  intro l s s1 i hn e
  simp only[dJ.noExit,aF]at hn
  simp only[fB,aA]at e
  obtain⟨⟨e0,s0⟩,h0,e⟩:=e
  cases e0 with
  |normal=>exact ihb hn.2 e
  |exit i=>simp only[aD,aM]at e;have:=e.1;injection this with this;subst this;exact iha hn.1 h0
  |ret=>simp only[aD,aM]at e;cases e.1
 |cond c a b iha ihb=>
  intro l s s1 i hn e
  simp only[dJ.noExit,aF]at hn
  simp only[fB,aA]at e
  obtain⟨v,hv,e⟩:=e
  split at e
  ·exact iha hn.1 e
  ·exact ihb hn.2 e
  ·cases e
 |block id a iha=>
  intro l s s1 i hn e
  simp only[dJ.noExit]at hn
  simp only[fB,aA]at e
  obtain⟨⟨e0,s0⟩,h0,e⟩:=e
  split at e
  ·simp only[aD,aM]at e;cases e.1
  ·rename_i hne
   simp only[aD,aM]at e
   have:=e.1;subst this
   have:=iha hn h0
   rcases aQ.1 this with h|h
   ·subst h;exact absurd rfl hne
   ·exact h
 |loop a iha=>
  intro l s s1 i hn e
  simp only[dJ.noExit]at hn
  simp only[fB]at e
  have key:∀(m:Nat) {s:St},dO (fB call opn (fun g s=>dO g n s) a) m s=some (.exit i,s1)->i∈l:=by
   intro m
   induction m with
   |zero=>intro s e;simp[dO]at e
   |succ m ihm=>
    intro s e
    simp only[dO,aA]at e
    obtain⟨⟨e0,s0⟩,h0,e⟩:=e
    cases e0 with
    |normal=>exact ihm e
    |exit i=>simp only[aD,aM]at e;have:=e.1;injection this with this;subst this;exact iha hn h0
    |ret=>simp only[aD,aM]at e;cases e.1
  exact key n e
theorem zR {a b:Option (List Nat)} {l:List Nat} (h:Kr a b=some l):∃x y,a=some x/\b=some y/\l=x++y:=by
 simp only[Kr,aA,aD]at h
 obtain⟨x,h1,y,h2,h3⟩:=h
 exact⟨x,y,h1,h2,h3.symm⟩
theorem tZ {σ:Fr} {l:List Nat} {t:Nat} {v:SV} (e:(σ.keep l).get t=some v):t∈l:=by
 induction l with
 |nil=>simp[Fr.keep,Fr.get]at e
 |cons u l ih=>
  simp only[Fr.keep]at e
  split at e
  ·simp only[Fr.get]at e
   split at e
   ·rename_i h;subst h;exact cE ..
   ·exact bT _ (ih e)
  ·simp only[Fr.get]at e
   split at e
   ·rename_i h;subst h;exact cE ..
   ·exact bT _ (ih e)
  ·exact bT _ (ih e)
theorem nL {σ:Fr} {l:List Nat} {t:Nat} {v:IV} (ht:t∈l) (e:σ.get t=some (.val v)):(σ.keep l).get t=some (.val v):=by
 induction l with
 |nil=>cases ht
 |cons u l ih=>
  by_cases h:u=t
  ·subst h;simp[Fr.keep,e,Fr.get]
  ·have ht':t∈l:=by rcases aQ.1 ht with h1|h1;exact absurd h1.symm h;exact h1
   simp only[Fr.keep]
   split
   ·simp only[Fr.get,if_neg h];exact ih ht'
   ·simp only[Fr.get,if_neg h];exact ih ht'
   ·exact ih ht'
theorem Sr {n:Nat}:∀{sc:dJ} {l:List Nat} {s s1:St},sc.rets=some l->fB call opn (fun g s=>dO g n s) sc s=some (.ret,s1)->∀t v,s1.1.get t=some v->t∈l:=by
 intro sc
 induction sc with
 |prim p=>intro l s s1 hn e;cases hn
 |skip=>intro l s s1 hn e;simp only[fB,aD,aM]at e;cases e.1
 |exit id=>intro l s s1 hn e;simp only[fB,aD,aM]at e;cases e.1
 |ret=>intro l s s1 hn e;cases hn
 |bad=>intro l s s1 hn e;simp[fB]at e
 |reg its live=>intro l s s1 hn e;simp only[fB,aA,aD,aM]at e;obtain⟨_,_,h,_⟩:=e;cases h
 |drw q0 bs live=>intro l s s1 hn e;simp only[fB,aA,aD,aM]at e;obtain⟨_,_,h,_⟩:=e;cases h
 |seq a b iha ihb=>
  intro l s s1 hn e
  simp only[dJ.rets]at hn
  split at hn
  ·rename_i l' hl
   injection hn with hn;subst hn
   cases a<;>cases b<;>simp only[Ve]at hl<;>try (cases hl;done)
   all_goals
    injection hl with hl;subst hl
    simp only[fB,aA,aD]at e
    obtain⟨⟨e0,s0⟩,⟨s2,h2,h3⟩,e⟩:=e
    simp only[aM]at h3
    obtain⟨rfl,rfl⟩:=h3
    simp only[aD,aM,true_and]at e
    subst e
    intro t v ht
    exact tZ ht
  ·obtain⟨x,y,h1,h2,rfl⟩:=zR hn
   simp only[fB,aA]at e
   obtain⟨⟨e0,s0⟩,h0,e⟩:=e
   cases e0 with
   |normal=>exact fun t v ht=>aE.2 (.inr (ihb h2 e t v ht))
   |exit i=>simp only[aD,aM]at e;cases e.1
   |ret=>simp only[aD,aM,true_and]at e;subst e;exact fun t v ht=>aE.2 (.inl (iha h1 h0 t v ht))
 |cond c a b iha ihb=>
  intro l s s1 hn e
  obtain⟨x,y,h1,h2,rfl⟩:=zR hn
  simp only[fB,aA]at e
  obtain⟨v,hv,e⟩:=e
  split at e
  ·exact fun t v ht=>aE.2 (.inl (iha h1 e t v ht))
  ·exact fun t v ht=>aE.2 (.inr (ihb h2 e t v ht))
  ·cases e
 |block id a iha=>
  intro l s s1 hn e
  simp only[fB,aA]at e
  obtain⟨⟨e0,s0⟩,h0,e⟩:=e
  split at e
  ·simp only[aD,aM]at e;cases e.1
  ·simp only[aD,aM]at e
   obtain⟨rfl,rfl⟩:=e
   exact iha hn h0
 |loop a iha=>
  intro l s s1 hn e
  simp only[fB]at e
  have key:∀(m:Nat) {s:St},dO (fB call opn (fun g s=>dO g n s) a) m s=some (.ret,s1)->∀t v,s1.1.get t=some v->t∈l:=by
   intro m
   induction m with
   |zero=>intro s e;simp[dO]at e
   |succ m ihm=>
    intro s e
    simp only[dO,aA]at e
    obtain⟨⟨e0,s0⟩,h0,e⟩:=e
    cases e0 with
    |normal=>exact ihm e
    |exit i=>simp only[aD,aM]at e;cases e.1
    |ret=>simp only[aD,aM,true_and]at e;subst e;exact iha hn h0
  exact key n e
end
end Go.Ideal
namespace Go.Ideal
open Go.RowKit
def mS (ts tp G b sz:Nat) (c:Int) (asg bdy:dJ) (live2 lx live3 live4:List Nat):dJ:=
 .seq (.reg (tS ts G (G+1) (G+2) 0 1) live2) (.seq (.cond (.t (G+2)) .skip (.seq (.reg [] lx) (.exit b)))
  (.seq (.reg (xG ts tp G (G+1) (G+3) (G+4) 0 1 2 3 sz c) live3) (.seq asg (.seq bdy (.reg [⟨0,none,some G,.bin .add (.t G) (.c (.int .i64 c))⟩] live4)))))
section
variable {call:Nat->List IV->aN->Option (IV×aN)} {opn:Nat->Bool}
theorem Ou {ts tp G b sz c i n:Nat} {asg bdy:dJ} {live2 lx live3 live4:List Nat} {σ:Fr} {h:aN} {e0:Ex} {s0:St} (hts:ts<lK) (hG:lK≤G)
 (m0:G∈live2) (m1:G+1∈live2) (m2:G+2∈live2) (ms:ts∈live2) (hc:1≤c)
 (hg:σ.get G=some (.val (.int .i64 (i:Int)))) (e:fB call opn (fun g s=>dO g n s) (mS ts tp G b sz c asg bdy live2 lx live3 live4) (σ,h)=some (e0,s0)):
 ∃iv len,σ.get ts=some (.val iv)/\lenOf iv=some len/\(∀b,iv≠.str b)/\
  ((len≤i/\e0 = .exit b/\s0=((((σ.put (G+1) (.val (.int .i64 len))).put (G+2) (.val (.bool false))).keep live2).keep lx,h))\/
   (i<len/\(len+c<9223372036854775807->∃pv,pR h sz iv i (i+min c (len-i))=some pv/\
    fB call opn (fun g s=>dO g n s) (.seq asg (.seq bdy (.reg [⟨0,none,some G,.bin .add (.t G) (.c (.int .i64 c))⟩] live4)))
     (((((((((σ.put (G+1) (.val (.int .i64 len))).put (G+2) (.val (.bool true))).keep live2).put (G+3) (.val (.int .i64 ((len-i:Nat):Int)))).put (G+4) (.val (.int .i64 ((min c (len-i):Nat):Int)))).put (G+1) (.val (.int .i64 ((i+min c (len-i):Nat):Int)))).put tp (.val pv)).keep live3),h)=some (e0,s0)))):=by
 rw[mS,fB]at e
 obtain⟨⟨e1,s1⟩,h1,e⟩:=aA.1 e
 rw[fB]at h1
 obtain⟨s2,h2,h3⟩:=aA.1 h1
 simp only[aD,aM]at h3
 obtain⟨rfl,rfl⟩:=h3
 have hiv:∃iv,σ.get ts=some (.val iv)/\∀b,iv≠.str b:=by
  simp only[tS,dL,fL,wanted,aB,if_true,aA,aT,aD]at h2
  obtain⟨_,⟨_,⟨iv,h4,h5⟩,_⟩,_⟩:=h2
  refine⟨iv,?_,?_⟩
  ·simp only[SX.val,SX.ev]at h4
   cases hq:σ.get ts with
   |none=>rw[hq]at h4;cases h4
   |some v=>
    rw[hq]at h4
    cases v with
    |val v=>simp only[aD]at h4;rw[h4]
    |_=>cases h4
  ·rintro b rfl;cases h5
 obtain⟨iv,hiv,hstr⟩:=hiv
 obtain⟨len,hlen,rfl⟩:=Ot hg hiv (by omega) h2
 refine⟨iv,len,hiv,hlen,hstr,?_⟩
 simp only at e
 rw[fB]at e
 obtain⟨⟨e4,s4⟩,h4,e⟩:=aA.1 e
 rw[fB]at h4
 obtain⟨v,hv,h4⟩:=aA.1 h4
 have hv2:((((σ.put (G+1) (.val (.int .i64 len))).put (G+2) (.val (.bool (decide ((i:Int)<(len:Int)))))).keep live2)).get (G+2)=some (.val (.bool (decide ((i:Int)<(len:Int))))):=nL m2 (by rw[bL,if_pos rfl])
 rw[mI hv2]at hv
 injection hv with hv;subst hv
 by_cases hlt:i<len
 ·right
  have hd:decide ((i:Int)<(len:Int))=true:=by simpa using hlt
  rw[hd]at h4
  simp only[fB,aD,aM]at h4
  obtain⟨rfl,rfl⟩:=h4
  refine⟨hlt,fun h63=>?_⟩
  simp only at e
  rw[fB]at e
  obtain⟨⟨e5,s5⟩,h5,e⟩:=aA.1 e
  rw[fB]at h5
  obtain⟨s6,h6,h7⟩:=aA.1 h5
  simp only[aD,aM]at h7
  obtain⟨rfl,rfl⟩:=h7
  have q0:((((σ.put (G+1) (.val (.int .i64 len))).put (G+2) (.val (.bool true))).keep live2)).get G=some (.val (.int .i64 (i:Int))):=nL m0 (by rw[dW (by omega),dW (by omega)];exact hg)
  have q1:((((σ.put (G+1) (.val (.int .i64 len))).put (G+2) (.val (.bool true))).keep live2)).get (G+1)=some (.val (.int .i64 (len:Int))):=nL m1 (by rw[dW (by omega),bL,if_pos rfl])
  have q2:((((σ.put (G+1) (.val (.int .i64 len))).put (G+2) (.val (.bool true))).keep live2)).get ts=some (.val iv):=nL ms (by rw[dW (by omega),dW (by omega)];exact hiv)
  obtain⟨pv,p1,rfl⟩:=Oq q0 q1 q2 hlen hstr hlt hc h63 (by omega) (by omega) (by omega) (by omega) (by omega) (by omega) (by omega) (by omega) (by omega) h6
  exact⟨pv,p1,e⟩
 ·left
  have hd:decide ((i:Int)<(len:Int))=false:=by simpa using hlt
  rw[hd]at h4
  simp only[fB,dL,aB,aD,aM]at h4
  obtain⟨rfl,rfl⟩:=h4
  simp only[aD,aM]at e
  exact⟨by omega,e.1.symm,e.2.symm⟩
end
structure lU (K1:Kx) (h1:aN) (w2:World) (M2:Nat->Prop) (K':Kx) (h':aN) (W:World) (σ':Fr) (a':Array Value):Prop where
 ext:oF K1 h1 w2.heap M2 K' h' W.heap (fZ K' h' σ' a')
 good:dK K' h' W.heap σ' a'
 io:((W.os,W.tape),W.output)=((w2.os,w2.tape),w2.output)
 sz:w2.heap.size+2≤W.heap.size
 mn:∀B,w2.heap.size≤B->B<w2.heap.size+2->¬fZ K' h' σ' a' B/\∀t,¬K'.st t B
section
variable {K1:Kx} {h1:aN} {w2:World} {M2:Nat->Prop} {K':Kx} {h':aN} {W:World} {σ':Fr} {a':Array Value}
theorem lU.same (r:lU K1 h1 w2 M2 K' h' W σ' a') {L:Nat->Prop} {σ'':Fr} {a'':Array Value} (s:jC L K' h' W.heap σ' a' K' h' W.heap σ'' a''):lU K1 h1 w2 M2 K' h' W σ'' a'' where
 ext:=r.ext.trans s.1
 good:=s.2.1
 io:=r.io
 sz:=r.sz
 mn:=fun B q1 q2=>⟨fun hm=>(r.mn B q1 q2).1 (s.1.mn B (bM q2 r.sz) hm),(r.mn B q1 q2).2⟩
theorem lU.step (r:lU K1 h1 w2 M2 K' h' W σ' a') {L:Nat->Prop} {K'':Kx} {h'':aN} {W'':World} {σ'':Fr} {a'':Array Value} (s:jC L K' h' W.heap σ' a' K'' h'' W''.heap σ'' a'')
 (hio:((W''.os,W''.tape),W''.output)=((W.os,W.tape),W.output)):lU K1 h1 w2 M2 K'' h'' W'' σ'' a'' where
 ext:=r.ext.trans s.1
 good:=s.2.1
 io:=hio.trans r.io
 sz:=cQ r.sz s.1.size
 mn:=fun B q1 q2=>⟨fun hm=>(r.mn B q1 q2).1 (s.1.mn B (bM q2 r.sz) hm),fun t ht=>(r.mn B q1 q2).2 t (s.1.st' t B ht (bM q2 r.sz))⟩
theorem lU.same_at (r:lU K1 h1 w2 M2 K' h' W σ' a') {L:Nat->Prop} {K'':Kx} {h'':aN} {W'':World} {σ'':Fr} {a'':Array Value} (s:jC L K' h' W.heap σ' a' K'' h'' W''.heap σ'' a'') {B:Nat} (q1:w2.heap.size≤B) (q2:B<w2.heap.size+2):W''.heap[B]? = W.heap[B]?:=
 s.1.fr B (bM q2 r.sz) (r.mn B q1 q2).1
theorem lU.turn (r:lU K1 h1 w2 M2 K' h' W σ' a') {B:Nat} (q1:w2.heap.size≤B) (q2:B<w2.heap.size+2) (o:Obj):lU K1 h1 w2 M2 K' h' (W.putObj B o) σ' a' where
 ext:=⟨r.ext.len,r.ext.gen,fun t x hx=>⟨(r.ext.st t x hx).1,(World.putObj_heap_other (fun he=>(r.mn B q1 q2).2 t (by rw[<-he];exact(r.ext.st t x hx).1))).trans (r.ext.st t x hx).2⟩,r.ext.st',
  by rw[World.putObj_size];exact r.ext.size,fun x hx hm=>(World.putObj_heap_other (by omega)).trans (r.ext.fr x hx hm),r.ext.mn,
  fun t x hx=>(r.ext.nst t x hx).imp id fun⟨h1,CS,el,fr,h2⟩=>⟨h1,CS,el,fr,(World.putObj_heap_other (fun he=>(r.mn B q1 q2).2 t (by rw[<-he];exact hx))).trans h2⟩⟩
 good:=By r.good (by rw[World.putObj_size];exact aK _) (fun x hm=>World.putObj_heap_other (fun he=>(r.mn B q1 q2).1 (by rw[<-he];exact hm))) (fun t x hx=>World.putObj_heap_other (fun he=>(r.mn B q1 q2).2 t (by rw[<-he];exact hx)))
 io:=r.io
 sz:=by rw[World.putObj_size];exact r.sz
 mn:=r.mn
theorem lU.swap (r:lU K1 h1 w2 M2 K' h' W σ' a') {a:Array Value} (hs:∀t v,σ'.get t=some v->t<lK->a[t]? = a'[t]?) (hb:∀t v,σ'.get t=some v->lK≤t->∃iv,v = .val iv):lU K1 h1 w2 M2 K' h' W σ' a where
 ext:=⟨r.ext.len,r.ext.gen,r.ext.st,r.ext.st',r.ext.size,r.ext.fr,fun B hB hm=>r.ext.mn B hB ((Br hs hb).1 hm),r.ext.nst⟩
 good:=Mb r.good hs hb
 io:=r.io
 sz:=r.sz
 mn:=fun B q1 q2=>⟨fun hm=>(r.mn B q1 q2).1 ((Br hs hb).1 hm),(r.mn B q1 q2).2⟩
theorem lU.drew (r:lU K1 h1 w2 M2 K' h' W σ' a'):lU K1 h1 w2 M2 K' h' W.drew σ' a':=⟨r.ext,r.good,r.io,r.sz,r.mn⟩
theorem lU.start (g:dK K1 h1 w2.heap σ' a') (o1 o2:Obj):lU K1 h1 w2 (fZ K1 h1 σ' a') K1 h1 ((w2.alloc o1).alloc o2) σ' a':=by
 have p1:=rO g o1
 have p2:=rO p1.2 o2
 refine⟨p1.1.trans p2.1,p2.2,rfl,Nat.le_of_eq (by simp only[World.size_alloc]),fun B q1 q2=>⟨fun hm=>?_,fun t ht=>?_⟩⟩
 ·have:=(mU g.inv g.fr hm).1;omega
 ·have:B<w2.heap.size:=by
   cases t
   ·exact g.inv.lt B (g.inv.sub B ht)
   ·exact g.inv.lt B ht
  omega
end
end Go.Ideal
namespace Go.Ideal
open Go.RowKit
structure xQ (P:Program) (opn:Nat->Bool) (ntm ts tp G c:Nat) (assign body:Code) (asg bdy:dJ) (live2 live4:List Nat):Prop where
 ha:iT P opn ntm assign asg
 hb:iT P opn ntm body bdy
 reg:∃its l,asg = .reg its l
 rets:∃l,bdy.rets=some l/\∀t∈l,t<lK/\t≠tp/\t∉asg.dsts/\t∉bdy.dsts
 noex:bdy.noExit []=true
 g1:lK≤G
 gp:G+4<qU
 ga:G∉asg.dsts
 gb:G∉bdy.dsts
 l4:∀t∈live4,(t<lK/\t≠tp/\t∉asg.dsts/\t∉bdy.dsts)\/t=G
 m4:G∈live4
 m0:G∈live2
 m1:G+1∈live2
 m2:G+2∈live2
 ms:ts∈live2
 mp:tp∉live2
 hts:ts<lK
 htp:tp<lK
 hpn:tp<ntm
 hc:1≤c
 hc2:c<4611686018427387904
def mark (D:Nat):Deferred:={ target:=.collected D,args:=#[] }
set_option maxHeartbeats 1000000
section
variable {P:Program} {f:FuncId} {S E sz:Nat} {opn:Nat->Bool} {ntm ts tp tf G c b:Nat} {assign body:Code} {asg bdy:dJ} {live2 lx live3 live4:List Nat} {call:Nat->List IV->aN->Option (IV×aN)}
theorem Qp (a:Addr) (i m:Nat):Value.slice (some (a.add (i*sz))) (i+m-i) (i+m-i)=Value.slice (some (a.add (i*sz))) m m:=by rw[Nat.add_sub_cancel_left]
theorem Os (LC:oR P f S E sz) (R:xQ P opn ntm ts tp G c assign body asg bdy live2 live4) (hc:qH P call) {n N0 m0:Nat} {K1:Kx} {h1:aN} {w2:World} {σ2:Fr} {a2:Act} {ex:Ex} {s1:St} {Q:Exit->Act->World->Prop} {Bs Bn len cap:Nat} {ao:Option Addr}
 (g2:dK K1 h1 w2.heap σ2 a2.tmps) (hn:a2.tmps.size=ntm) (hσ:∀t v,σ2.get t=some v->lK≤t->∃iv,v = .val iv)
 (h0:σ2.get G=some (.val (.int .i64 0)))
 (hfun:a2.tmps[tf]? = some (.func (.func LC.fi) #[] #[.pointer (some ⟨Bs,0,none⟩),.pointer (some ⟨Bn,0,none⟩)])) (hx:a2.tmps[ts]? = some (.slice ao len cap))
 (hBs:w2.cell? ⟨Bs,0,none⟩=some (.slice ao len cap)) (hBn:w2.cell? ⟨Bn,0,none⟩=some (.int .i64 c)) (mBs:¬fZ K1 h1 σ2 a2.tmps Bs) (mBn:¬fZ K1 h1 σ2 a2.tmps Bn)
 (hao:len≠0->∃a,ao=some a) (hlc:len≤cap) (h62:len<4611686018427387904)
 (ev:dO (fB call opn (fun g s=>dO g N0 s) (mS ts tp G b sz c asg bdy live2 lx live3 live4)) m0 (σ2,h1)=some (ex,s1))
 (hq:∀K' w',lU K1 h1 w2 (fZ K1 h1 σ2 a2.tmps) K' s1.2 w' s1.1 a2.tmps->w'.heap[w2.heap.size]? = some (.deferred (some []))->
   (ex = .exit b->Q .normal { a2 with defers:=mark w2.heap.size::a2.defers } w')/\(ex = .ret->Q .ret { a2 with defers:=mark w2.heap.size::a2.defers } w')):
 (Code.rangeFunc (.tmp tf) #[tp] assign body).wpIn (qO none) n P Q a2 w2:=by
 have hcc:=R.hc
 have hcc2:=R.hc2
 let N:=(len+c-1)/c
 have hN:N*c<len+c:=by
  have:=Nat.div_mul_le_self (len+c-1) c
  show (len+c-1)/c*c<len+c
  omega
 have hN2:len≤N*c:=by
  have h1:=Al (len+c-1) c
  have h2:=Nat.mod_lt (len+c-1) R.hc
  show len≤(len+c-1)/c*c
  rw[Af];omega
 obtain⟨ad,had⟩:∃ad:Addr,len≠0->ao=some ad:=by
  by_cases h:len=0
  ·exact⟨⟨0,0,none⟩,fun h'=>absurd h h'⟩
  ·obtain⟨a,ha⟩:=hao h;exact⟨a,fun _=>ha⟩
 let M2:=fZ K1 h1 σ2 a2.tmps
 let I:Nat->World->Prop:=fun k W=>∃K' h' σ' m,lU K1 h1 w2 M2 K' h' W σ' a2.tmps/\(∀t v,σ'.get t=some v->lK≤t->∃iv,v = .val iv)/\σ'.get G=some (.val (.int .i64 ((k*c:Nat):Int)))/\
  dO (fB call opn (fun g s=>dO g N0 s) (mS ts tp G b sz c asg bdy live2 lx live3 live4)) m (σ',h')=some (ex,s1)
 let Ix:Code->World->Prop:=fun c W=>c = .ret/\ex = .ret/\∃K',lU K1 h1 w2 M2 K' s1.2 W s1.1 a2.tmps
 have cell_of:∀{K' h' W σ' a'},lU K1 h1 w2 M2 K' h' W σ' a'->∀{B v},w2.cell? ⟨B,0,none⟩=some v->¬M2 B->W.cell? ⟨B,0,none⟩=some v:=by
  intro K' h' W σ' a' r B v hv hm
  have hB:B<w2.heap.size:=by
   rcases iQ B w2.heap.size with h|h
   ·exact h
   ·simp only[World.cell?,Aj h]at hv;cases hv
  have:=r.ext.fr B hB hm
  simp only[World.cell?,this]at hv |-
  exact hv
 have rel_x:∀{K' h' W σ'},lU K1 h1 w2 M2 K' h' W σ' a2.tmps->∀{iv},σ'.get ts=some (.val iv)->bS K' W.heap h' iv (.slice ao len cap):=by
  intro K' h' W σ' r iv hiv
  obtain⟨x,h1,h2⟩:=r.good.fr.val ts iv hiv R.hts
  rw[hx]at h1;injection h1 with h1;rw[h1];exact h2
 have len_x:∀{K':Kx} {H:gC} {h':aN} {iv:IV} {l:Nat},bS K' H h' iv (.slice ao len cap)->lenOf iv=some l->l=len:=by
  intro K' H h' iv l hv hl
  generalize hy:Value.slice ao len cap=y at hv
  cases hv<;>simp only[lenOf]at hl<;>first|(cases hl;done)|(injection hl with hl;injection hy with e1 e2 e3;omega)|(cases hy;done)
 refine Sp (n:=n) (gf:=LC.fi) (lb:=#[.pointer (some ⟨Bs,0,none⟩),.pointer (some ⟨Bn,0,none⟩)]) (by simp only[Act.eval,hfun,dA,kC]) ⟨LC.fn2,LC.hf2,LC.hg2,by rw[LC.hb2];rfl⟩ N (fun k=>Kb ad sz c len k) I Ix
  (fun W=>W.cell? ⟨Bs,0,none⟩=some (.slice ao len cap)/\W.cell? ⟨Bn,0,none⟩=some (.int .i64 c)) ?_ ?_ ?_ ?_ ?_ ?_ ?_
 ·rintro k W ⟨K',h',σ',m,r,_⟩
  exact⟨cell_of r hBs mBs,cell_of r hBn mBn⟩
 ·rintro k W ⟨K',h',σ',m,r,q⟩
  exact⟨K',h',σ',m,r.drew,q⟩
 ·intro J Jx W hdr hJC hY hJ0
  exact Tr LC (n-1) (w2.heap.size+1) Bs Bn ad ao len cap c N had R.hc hlc (by omega) hN hN2 J Jx hdr hJC hY W hJ0
 ·intro r
  exact⟨K1,h1,σ2,m0,lU.start g2 _ _,hσ,by simpa using h0,ev⟩
 ·
  intro k W r0 hI hk hLp hD
  obtain⟨K',h',σ',m,r,hgh,hg0,hev⟩:=hI
  cases m with
  |zero=>simp[dO]at hev
  |succ m=>
  simp only[dO,aA]at hev
  obtain⟨⟨e0,s0⟩,hs0,hev⟩:=hev
  obtain⟨iv,l,hiv,hl,hstr,hcase⟩:=Ou (i:=k*c) R.hts R.g1 R.m0 R.m1 R.m2 R.ms R.hc hg0 hs0
  have hv:=rel_x r hiv
  have hll:=len_x hv hl
  subst hll
  have hkl:k*c<l:=by
   have:k*c+c≤N*c:=by rw[<-eF];exact bB _ hk
   omega
  rcases hcase with ⟨hle,_⟩|⟨hlt,hh⟩
  ·omega
  obtain⟨pv,p1,e2⟩:=hh (by omega)
  have hao':=had (by omega)
  have hpv:bS K' W.heap h' pv (Kb ad sz c l k):=by
   have hv':bS K' W.heap h' iv (.slice (some ad) l cap):=by rw[<-hao'];exact hv
   have:=Lv hv' hl p1 (by omega) (by omega)
   rw[Qp]at this
   exact this
  let L:Nat->Prop:=fun t=>t<lK/\t≠tp/\t∉asg.dsts/\t∉bdy.dsts
  have gfree:∀{σ:Fr},(∀t v,σ.get t=some v->lK≤t->∃iv,v = .val iv)->∀t,lK≤t->bF σ t=true/\∀cs,σ.get t≠some (.box cs):=by
   intro σ hσ t ht
   have:∀cs,σ.get t≠some (.box cs):=fun cs e=>by obtain⟨iv,h⟩:=hσ t _ e ht;cases h
   refine⟨?_,this⟩
   simp only[bF]
  have gput:∀{σ:Fr},(∀t v,σ.get t=some v->lK≤t->∃iv,v = .val iv)->∀(u:Nat) (x:IV),∀t v,(σ.put u (.val x)).get t=some v->lK≤t->∃iv,v = .val iv:=by
   intro σ hσ u x t v e ht
   rw[bL]at e
   split at e
   ·injection e with e;exact⟨x,e.symm⟩
   ·exact hσ t v e ht
  have gkeep:∀{σ:Fr},(∀t v,σ.get t=some v->lK≤t->∃iv,v = .val iv)->∀(l:List Nat),∀t v,(σ.keep l).get t=some v->lK≤t->∃iv,v = .val iv:=fun hσ l t v e ht=>hσ t v (kH _ _ _ e).1 ht
  have hgG:=R.g1
  have hgp:=R.gp
  have htp:=R.htp
  have f1:=gfree hgh (G+1) (by omega)
  have S1:=fY (L:=L) r.good (t:=G+1) (by omega) (.int .i64 (l:Int)) f1.1 f1.2
  have hgh1:=gput hgh (G+1) (.int .i64 (l:Int))
  have f2:=gfree hgh1 (G+2) (by omega)
  have S2:=S1.trans (fY (L:=L) S1.2.1 (t:=G+2) (by omega) (.bool true) f2.1 f2.2)
  have hgh2:=gput hgh1 (G+2) (.bool true)
  have S3:=S2.trans (iC (L:=L) S2.2.1 live2)
  have hgh3:=gkeep hgh2 live2
  have f4:=gfree hgh3 (G+3) (by omega)
  have S4:=S3.trans (fY (L:=L) S3.2.1 (t:=G+3) (by omega) (.int .i64 ((l-k*c:Nat):Int)) f4.1 f4.2)
  have hgh4:=gput hgh3 (G+3) (.int .i64 ((l-k*c:Nat):Int))
  have f5:=gfree hgh4 (G+4) (by omega)
  have S5:=S4.trans (fY (L:=L) S4.2.1 (t:=G+4) (by omega) (.int .i64 ((min c (l-k*c):Nat):Int)) f5.1 f5.2)
  have hgh5:=gput hgh4 (G+4) (.int .i64 ((min c (l-k*c):Nat):Int))
  have f6:=gfree hgh5 (G+1) (by omega)
  have S6:=S5.trans (fY (L:=L) S5.2.1 (t:=G+1) (by omega) (.int .i64 ((k*c+min c (l-k*c):Nat):Int)) f6.1 f6.2)
  have hnone:((((((((σ'.put (G+1) (.val (.int .i64 l))).put (G+2) (.val (.bool true))).keep live2).put (G+3) (.val (.int .i64 ((l-k*c:Nat):Int)))).put (G+4) (.val (.int .i64 ((min c (l-k*c):Nat):Int)))).put (G+1) (.val (.int .i64 ((k*c+min c (l-k*c):Nat):Int)))))).get tp=none:=by
   rw[dW (by omega),dW (by omega),dW (by omega)]
   cases hk':((((σ'.put (G+1) (.val (.int .i64 (l:Int)))).put (G+2) (.val (.bool true))).keep live2)).get tp with
   |none=>rfl
   |some v=>exact absurd (tZ hk') R.mp
  have S7:=S6.trans ((yG (L:=L) (Step.refl S6.2.1) (vO (sv:=.val pv) hpv) (t:=tp) (by simp only[bF,hnone]) (by rw[hn];exact R.hpn) (fun h=>h.2.1 rfl)).trans (iC (L:=L) (yG (L:=L) (Step.refl S6.2.1) (vO (sv:=.val pv) hpv) (t:=tp) (by simp only[bF,hnone]) (by rw[hn];exact R.hpn) (fun h=>h.2.1 rfl)).2.1 live3))
  have r1:=r.same S7
  have hG7:xA G (.int .i64 ((k*c:Nat):Int)) (((((((((σ'.put (G+1) (.val (.int .i64 l))).put (G+2) (.val (.bool true))).keep live2).put (G+3) (.val (.int .i64 ((l-k*c:Nat):Int)))).put (G+4) (.val (.int .i64 ((min c (l-k*c):Nat):Int)))).put (G+1) (.val (.int .i64 ((k*c+min c (l-k*c):Nat):Int)))).put tp (.val pv)).keep live3)):=by
   have pn:∀{σ:Fr} {u:Nat} {x:SV},xA G (.int .i64 ((k*c:Nat):Int)) σ->u≠G->xA G (.int .i64 ((k*c:Nat):Int)) (σ.put u x):=fun h hu=>by
    unfold xA;rw[dW hu];exact h
   exact uA (pn (pn (pn (pn (uA (pn (pn (.inr hg0) (by omega)) (by omega))) (by omega)) (by omega)) (by omega)) (by omega))
  rw[fB]at e2
  obtain⟨⟨e3,s3⟩,h3,e2⟩:=aA.1 e2
  have he3:e3 = .normal:=by
   obtain⟨its,la,hasg⟩:=R.reg
   have h3':=h3
   rw[hasg,fB]at h3'
   obtain⟨_,_,h⟩:=aA.1 h3'
   simp only[aD,aM]at h
   exact h.1.symm
  subst he3
  have hG3:=Vo (by omega) hG7 R.ga h3
  refine Qy (L:=L) hc R.ha (fun t ht=>ht.2.2.1) h3 r1.good (by simp only[jX];exact hn) fun K3 a3 w3 T3 hd3=>?_
  have r3:=r1.step T3 (by injection hd3)
  simp only[Ar,Exit.then]
  refine⟨(r1.same_at T3 (by omega) (by omega)).trans hLp,fun o=>?_⟩
  have r4:=r3.turn (B:=w2.heap.size+1) (by omega) (by omega) o
  rw[fB]at e2
  obtain⟨⟨e4,s4⟩,h4,e2⟩:=aA.1 e2
  have hG4:=Vo (by omega) hG3 R.gb h4
  refine Qy (L:=L) hc R.hb (fun t ht=>ht.2.2.2) h4 r4.good (by rw[T3.2.2.1];simp only[jX];exact hn) fun K5 a5 w5 T5 hd5=>?_
  have r5:=r4.step T5 (by injection hd5)
  have hsz3:w2.heap.size+1<w3.heap.size:=bM (by omega) r3.sz
  have hLp5:w5.heap[w2.heap.size+1]? = some o:=(r4.same_at T5 (by omega) (by omega)).trans (World.putObj_heap_same hsz3)
  have hD5:w5.heap[w2.heap.size]? = some (.deferred (some [])):=(r4.same_at T5 (by omega) (by omega)).trans ((World.putObj_heap_other (by omega)).trans ((r1.same_at T3 (by omega) (by omega)).trans hD))
  have hag:∀t,L t->a2.tmps[t]? = a5.tmps[t]?:=fun t ht=>((T5.2.2.2 t ht).trans ((T3.2.2.2 t ht).trans (S7.2.2.2 t ht))).symm
  cases e4 with
  |exit i=>have:=Bq R.noex h4;cases this
  |ret=>
   simp only[aD,aM]at e2
   obtain⟨rfl,rfl⟩:=e2
   simp only[aD,aM]at hev
   obtain⟨rfl,rfl⟩:=hev
   obtain⟨lr,hr1,hr2⟩:=R.rets
   have hr:=Sr hr1 h4
   refine⟨hLp5,hD5,fun o'=>⟨rfl,rfl,K5,(r5.swap (fun t v e h=>hag t (hr2 t (hr t v e))) (fun t v e h=>?_)).turn (by omega) (by omega) o'⟩⟩
   have:=(hr2 t (hr t v e)).1;omega
  |normal=>
   simp only at e2
   rw[fB,aA]at e2
   obtain⟨s6,h6,e2⟩:=e2
   obtain⟨σ4,hh4⟩:=s4
   simp only[aD,aM]at e2
   obtain⟨rfl,rfl⟩:=e2
   try simp only at hev
   try simp only at hG4
   have hgv:σ4.get G=some (.val (.int .i64 ((k*c:Nat):Int)))/\s6=(σ4.put G (.val (.int .i64 (((k+1)*c:Nat):Int))),hh4):=by
    simp only[dL,fL,wanted,aB,if_true,aA,aT,aD]at h6
    obtain⟨s7,⟨r7,⟨v1,hv1,v2,hv2,v3,hv3,rfl⟩,h7⟩,rfl⟩:=h6
    have hgv:σ4.get G=some (.val (.int .i64 ((k*c:Nat):Int))):=by
     rcases hG4 with h|h
     ·simp[SX.val,SX.ev,h]at hv1
     ·exact h
    refine⟨hgv,?_⟩
    rw[mI hgv]at hv1
    injection hv1 with hv1;subst hv1
    simp only[SX.val,SX.ev,aD]at hv2;subst hv2
    have w1:IntKind.i64.wrap (((k*c:Nat):Int)+(c:Int))=(((k+1)*c:Nat):Int):=by
     have e1:(k+1)*c=k*c+c:=eF k c
     rw[IntKind.wrap_i64,e1];omega
    simp only[bin,fW,mX,decide_true,lA,if_true,w1,aD]at hv3
    subst hv3
    simp only[gL]at h7
    split at h7
    ·injection h7 with h7;exact h7.symm
    ·cases h7
   obtain⟨hgv,rfl⟩:=hgv
   have hnb:∀cs,σ4.get G≠some (.box cs):=fun cs e=>by rw[hgv]at e;cases e
   have U1:=fY (L:=L) r5.good (t:=G) (by omega) (.int .i64 (((k+1)*c:Nat):Int)) (by simp only[bF,hgv]) hnb
   have U2:=U1.trans (iC (L:=L) U1.2.1 live4)
   have hin:∀t v,(((σ4.put G (.val (.int .i64 (((k+1)*c:Nat):Int)))).keep live4)).get t=some v->L t\/(t=G/\v = .val (.int .i64 (((k+1)*c:Nat):Int))):=fun t v e=>by
    rcases R.l4 t (tZ e)with h|h
    ·exact .inl h
    ·subst h
     have:=(kH _ _ _ e).1
     rw[bL,if_pos rfl]at this
     injection this with this
     exact .inr ⟨rfl,this.symm⟩
   refine⟨hLp5,hD5,fun o'=>⟨K5,hh4,_,m,((r5.same U2).swap (fun t v e h=>?_) (fun t v e h=>?_)).turn (by omega) (by omega) o',fun t v e h=>?_,nL R.m4 (by rw[bL,if_pos rfl]),hev⟩⟩
   ·rcases hin t v e with h'|⟨rfl,_⟩
    ·exact hag t h'
    ·omega
   ·rcases hin t v e with h'|⟨_,h'⟩
    ·have:=h'.1;omega
    ·exact⟨_,h'⟩
   ·rcases hin t v e with h'|⟨_,h'⟩
    ·have:=h'.1;omega
    ·exact⟨_,h'⟩
 ·
  rintro W o ⟨K',h',σ',m,r,hgh,hg0,hev⟩ hsz hD
  cases m with
  |zero=>simp[dO]at hev
  |succ m=>
  simp only[dO,aA]at hev
  obtain⟨⟨e0,s0⟩,hs0,hev⟩:=hev
  obtain⟨iv,l,hiv,hl,hstr,hcase⟩:=Ou (i:=N*c) R.hts R.g1 R.m0 R.m1 R.m2 R.ms R.hc hg0 hs0
  have hv:=rel_x r hiv
  have hll:=len_x hv hl
  subst hll
  rcases hcase with ⟨hle,rfl,rfl⟩|⟨hlt,_⟩
  ·simp only[aD,aM]at hev
   obtain⟨rfl,rfl⟩:=hev
   have hgG:=R.g1
   have nb:∀{σ:Fr},(∀t v,σ.get t=some v->lK≤t->∃iv,v = .val iv)->∀t,lK≤t->bF σ t=true/\∀cs,σ.get t≠some (.box cs):=by
    intro σ hσ t ht
    have:∀cs,σ.get t≠some (.box cs):=fun cs e=>by obtain⟨iv,h⟩:=hσ t _ e ht;cases h
    refine⟨?_,this⟩
    simp only[bF]
   have f1:=nb hgh (G+1) (by omega)
   have S1:=fY (L:=fun _=>False) r.good (t:=G+1) (by omega) (.int .i64 (l:Int)) f1.1 f1.2
   have hgh1:∀t v,(σ'.put (G+1) (.val (.int .i64 (l:Int)))).get t=some v->lK≤t->∃iv,v = .val iv:=by
    intro t v e ht
    rw[bL]at e
    split at e
    ·injection e with e;exact⟨_,e.symm⟩
    ·exact hgh t v e ht
   have f2:=nb hgh1 (G+2) (by omega)
   have S2:=S1.trans (fY (L:=fun _=>False) S1.2.1 (t:=G+2) (by omega) (.bool false) f2.1 f2.2)
   have S3:=S2.trans (iC (L:=fun _=>False) S2.2.1 live2)
   have S4:=S3.trans (iC (L:=fun _=>False) S3.2.1 lx)
   exact(hq K' (W.putObj (w2.heap.size+1) o) ((r.same S4).turn (by omega) (by omega) o) ((World.putObj_heap_other (by omega)).trans hD)).1 rfl
  ·omega
 ·
  rintro c' W o ⟨rfl,hret,K',r⟩ hsz hD
  exact wpIn_ret ((hq K' (W.putObj (w2.heap.size+1) o) (r.turn (by omega) (by omega) o) ((World.putObj_heap_other (by omega)).trans hD)).2 hret)
end
end Go.Ideal
namespace Go.Ideal
open Go.RowKit
def Dd (ts tp G b sz:Nat) (c:Int) (its:List cH) (asg bdy:dJ) (live0 live1 live2 lx live3 live4 live5:List Nat):dJ:=
 .seq (.reg its live0) (.seq (.block b (.seq (.reg [⟨0,none,some G,.mov (.c (.int .i64 0))⟩,⟨1,none,some (G+1),.len false (.t ts)⟩,⟨2,none,some (G+2),.bin .lss (.t (G+1)) (.c (.int .i64 32768))⟩] live1)
  (.seq (.cond (.t (G+2)) .skip .bad) (.loop (mS ts tp G b sz c asg bdy live2 lx live3 live4))))) (.reg [] live5))
structure Lb (P:Program) (opn:Nat->Bool) (ntm ts tf G f:Nat) (c:Nat) (ops:Array Oper) (its:List cH) (live0 live1:List Nat):Prop where
 hl:its.length+1=ops.size
 hi:∀(j:Nat) (it:cH),its[j]? = some it->∃o,ops[j]? = some o/\vG P ops ntm o it
 oc:∃oc cc,ops[its.length]? = some oc/\oc.op = .call cc/\cc.callee = .value (.func f)/\cc.args = #[.tmp ts,.const (.int .i64 c)]/\oc.dst=some tf/\oc.guard=none
 ht:tf<ntm
 h0:∀t∈live0,t<lK/\t≠tf
 hG:G∈live1
 hG2:G+2∈live1
inductive vD (P:Program) (opn:Nat->Bool) (ntm:Nat):Code->dJ->Prop
 |seqL {a b a' b'} (ha:vD P opn ntm a a') (hb:iT P opn ntm b b'):vD P opn ntm (.seq a b) (.seq a' b')
 |seqR {a b a' b'} (ha:iT P opn ntm a a') (hb:vD P opn ntm b b'):vD P opn ntm (.seq a b) (.seq a' b')
 |chunk {f S E sz ts tp tf G b c id ops its assign body asg bdy live0 live1 live2 lx live3 live4 live5} (LC:oR P f S E sz) (R:xQ P opn ntm ts tp G c assign body asg bdy live2 live4)
   (A:Lb P opn ntm ts tf G f c ops its live0 live1):
   vD P opn ntm (.seq (.region id ops false) (.block b (.rangeFunc (.tmp tf) #[tp] assign body))) (Dd ts tp G b sz c its asg bdy live0 live1 live2 lx live3 live4 live5)
def Mk (K1:Kx) (h1:aN) (σ1:Fr) (a1:Array Value) (W:World) (lo:Nat) (ds:List Deferred):Prop:=
 ds=[]\/∃D,ds=[mark D]/\lo≤D/\W.heap[D]? = some (.deferred (some []))/\¬fZ K1 h1 σ1 a1 D/\∀t,¬K1.st t D
set_option maxHeartbeats 1000000
section
variable {P:Program} {opn:Nat->Bool} {ntm:Nat} {call:Nat->List IV->aN->Option (IV×aN)}
theorem mn_ge {K:Kx} {h:aN} {H:gC} {σ:Fr} {a:Array Value} (g:dK K h H σ a) {B:Nat} (hB:H.size≤B):¬fZ K h σ a B:=fun hm=>by
 have:=(mU g.inv g.fr hm).1;omega
theorem Yn {f:St->Option (Ex×St)} {b:Nat} (hf:∀s e s1,f s=some (e,s1)->e = .normal\/e = .exit b\/e = .ret):∀{m:Nat} {s:St} {e:Ex} {s1:St},dO f m s=some (e,s1)->e = .exit b\/e = .ret:=by
 intro m
 induction m with
 |zero=>intro s e s1 h;simp[dO]at h
 |succ m ih=>
  intro s e s1 h
  simp only[dO,aA]at h
  obtain⟨⟨e0,s0⟩,h0,h⟩:=h
  cases e0 with
  |normal=>exact ih h
  |exit i=>
   simp only[aD,aM]at h
   rcases hf _ _ _ h0 with h1|h1|h1
   ·cases h1
   ·exact .inl (h.1.symm.trans h1)
   ·cases h1
  |ret=>simp only[aD,aM]at h;exact .inr h.1.symm
theorem Ys {ts tp G b c sz n:Nat} {assign body:Code} {asg bdy:dJ} {live2 lx live3 live4:List Nat} (R:xQ P opn ntm ts tp G c assign body asg bdy live2 live4) {s:St} {e:Ex} {s1:St}
 (ev:fB call opn (fun g s=>dO g n s) (mS ts tp G b sz c asg bdy live2 lx live3 live4) s=some (e,s1)):e = .normal\/e = .exit b\/e = .ret:=by
 cases e with
 |normal=>exact .inl rfl
 |ret=>exact .inr (.inr rfl)
 |exit i=>
  have hne:(mS ts tp G b sz c asg bdy live2 lx live3 live4).noExit [b]=true:=by
   obtain⟨its,l,hasg⟩:=R.reg
   have mono:∀(sc:dJ) (l l':List Nat),(∀i,l.contains i=true->l'.contains i=true)->sc.noExit l=true->sc.noExit l'=true:=by
    intro sc
    induction sc with
    |seq a b iha ihb=>intro l l' h e;simp only[dJ.noExit,aF]at e |-;exact⟨iha l l' h e.1,ihb l l' h e.2⟩
    |cond c a b iha ihb=>intro l l' h e;simp only[dJ.noExit,aF]at e |-;exact⟨iha l l' h e.1,ihb l l' h e.2⟩
    |block id a iha=>
     intro l l' h e
     simp only[dJ.noExit]at e |-
     exact iha _ _ (fun i hi=>by simp only[List.contains_cons,cV]at hi |-;exact hi.imp (fun h=>h) (h i)) e
    |loop a iha=>intro l l' h e;simp only[dJ.noExit]at e |-;exact iha l l' h e
    |exit i=>intro l l' h e;exact h i e
    |_=>intro l l' h e;rfl
   simp only[mS,dJ.noExit,hasg,Hm,Bool.true_and,aF]
   exact⟨by simp,mono bdy [] [b] (by intro i h;cases h) R.noex⟩
  have:=Bq hne ev
  simp only[eI]at this
  exact .inr (.inl (by rw[this]))
theorem Wy {ts tp G b c sz n:Nat} {its:List cH} {asg bdy:dJ} {live0 live1 live2 lx live3 live4 live5:List Nat} {σ:Fr} {h:aN} {ex:Ex} {s1:St} (hts:ts<lK) (hG:lK≤G) (m0:G∈live1) (m2:G+2∈live1)
 (ev:fB call opn (fun g s=>dO g n s) (Dd ts tp G b sz c its asg bdy live0 live1 live2 lx live3 live4 live5) (σ,h)=some (ex,s1)):
 ∃s2 iv len exl s4,dL call opn its (σ,h)=some s2/\(s2.1.keep live0).get ts=some (.val iv)/\(∀b,iv≠.str b)/\lenOf iv=some len/\len<32768/\
  dO (fB call opn (fun g s=>dO g n s) (mS ts tp G b sz c asg bdy live2 lx live3 live4)) n ((((((s2.1.keep live0).put G (.val (.int .i64 0))).put (G+1) (.val (.int .i64 len))).put (G+2) (.val (.bool true))).keep live1),s2.2)=some (exl,s4)/\
  ((exl = .exit b/\ex = .normal/\s1=(s4.1.keep live5,s4.2))\/(exl = .ret/\ex = .ret/\s1=s4)\/(exl≠.exit b/\exl≠.ret)):=by
 rw[Dd,fB,aA]at ev
 obtain⟨⟨e1,s⟩,h1,ev⟩:=ev
 rw[fB,aA]at h1
 obtain⟨s2,h2,h3⟩:=h1
 simp only[aD,aM]at h3
 obtain⟨rfl,rfl⟩:=h3
 simp only at ev
 rw[fB,aA]at ev
 obtain⟨⟨e5,s5⟩,h5,ev⟩:=ev
 rw[fB,aA]at h5
 obtain⟨⟨e6,s6⟩,h6,h7⟩:=h5
 rw[fB,aA]at h6
 obtain⟨⟨e8,s8⟩,h8,h9⟩:=h6
 rw[fB,aA]at h8
 obtain⟨s10,h10,h11⟩:=h8
 simp only[aD,aM]at h11
 obtain⟨rfl,rfl⟩:=h11
 have main:∃iv len,(s2.1.keep live0).get ts=some (.val iv)/\(∀b,iv≠.str b)/\lenOf iv=some len/\s10=((((s2.1.keep live0).put G (.val (.int .i64 0))).put (G+1) (.val (.int .i64 len))).put (G+2) (.val (.bool (decide ((len:Int)<32768)))),s2.2):=by
  have step:∀{σ:Fr} {x t:Nat} {op:gQ} {v:IV} {rest:List cH} {h:aN} {s0:St},aT call opn (some t) op (σ,h)=some (.val v,(σ,h))->dL call opn (⟨x,none,some t,op⟩::rest) (σ,h)=some s0->dL call opn rest (σ.put t (.val v),h)=some s0:=by
   intro σ x t op v rest h s0 ho e
   simp only[dL,fL,wanted,aB,if_true,ho,gL]at e
   split at e
   ·simpa using e
   ·simp at e
  have e1:=step (v:=.int .i64 0) (by simp only[aT,SX.ev,aB]) h10
  have hiv:∃iv,((s2.1.keep live0).put G (.val (.int .i64 0))).get ts=some (.val iv)/\(∀b,iv≠.str b)/\∃len,lenOf iv=some len:=by
   simp only[dL,fL,wanted,aB,if_true,aA,aT]at e1
   obtain⟨_,⟨_,⟨iv,h4,h5⟩,_⟩,_⟩:=e1
   refine⟨iv,?_,?_,?_⟩
   ·simp only[SX.val,SX.ev]at h4
    cases hq:((s2.1.keep live0).put G (.val (.int .i64 0))).get ts with
    |none=>rw[hq]at h4;cases h4
    |some v=>
     rw[hq]at h4
     cases v with
     |val v=>simp only[aD]at h4;rw[h4]
     |_=>cases h4
   ·rintro b rfl;cases h5
   ·cases iv<;>simp only[aA]at h5<;>first|(obtain⟨len,hl,_⟩:=h5;exact⟨len,hl⟩)|(cases h5)
  obtain⟨iv,hiv,hstr,len,hlen⟩:=hiv
  have e2:=step (v:=.int .i64 (len:Int)) (by
   simp only[aT,mI hiv,aB]
   cases iv<;>simp only[hlen,aB]<;>(first|rfl|(exact absurd rfl (hstr _)))) e1
  have e3:=step (v:=.bool (decide ((len:Int)<32768))) (by
   have q:(SX.t (G+1)).val (((s2.1.keep live0).put G (.val (.int .i64 0))).put (G+1) (.val (.int .i64 (len:Int))))=some (.int .i64 (len:Int)):=tV
   have q2:∀{σ:Fr},(SX.c (.int .i64 32768)).val σ = some (.int .i64 32768):=rfl
   simp only[aT,q,q2,aB,bin,fW,mX,decide_true,lA,if_true]) e2
  simp only[dL,aD]at e3
  rw[dW (by omega)]at hiv
  exact⟨iv,len,hiv,hstr,hlen,e3.symm⟩
 obtain⟨iv,len,hiv,hstr,hlen,rfl⟩:=main
 simp only at h9
 rw[fB,aA]at h9
 obtain⟨⟨e12,s12⟩,h12,h13⟩:=h9
 rw[fB,aA]at h12
 obtain⟨v,hv,h14⟩:=h12
 have q2:(((((s2.1.keep live0).put G (.val (.int .i64 0))).put (G+1) (.val (.int .i64 (len:Int)))).put (G+2) (.val (.bool (decide ((len:Int)<32768))))).keep live1).get (G+2)=some (.val (.bool (decide ((len:Int)<32768)))):=nL m2 (by rw[bL,if_pos rfl])
 rw[mI q2]at hv
 injection hv with hv;subst hv
 by_cases hlt:len<32768
 ·have hd:decide ((len:Int)<32768)=true:=by simpa using (by omega:(len:Int)<32768)
  rw[hd]at h14
  simp only[fB,aD,aM]at h14
  obtain⟨rfl,rfl⟩:=h14
  simp only at h13
  rw[fB]at h13
  refine⟨s2,iv,len,e6,s6,h2,hiv,hstr,hlen,hlt,h13,?_⟩
  split at h7
  ·rename_i he
   simp only at he;subst he
   simp only[aD,aM]at h7
   obtain⟨rfl,rfl⟩:=h7
   simp only[fB,dL,aB,aD,aM]at ev
   exact .inl ⟨rfl,ev.1.symm,ev.2.symm⟩
  ·rename_i he
   simp only[aD,aM]at h7
   obtain⟨rfl,rfl⟩:=h7
   cases e6 with
   |normal=>exact .inr (.inr ⟨by simp,by simp⟩)
   |exit i=>exact .inr (.inr ⟨fun h=>he h,by simp⟩)
   |ret=>
    simp only[aD,aM]at ev
    exact .inr (.inl ⟨rfl,ev.1.symm,ev.2.symm⟩)
 ·have hd:decide ((len:Int)<32768)=false:=by simpa using (by omega:¬(len:Int)<32768)
  rw[hd]at h14
  simp[fB]at h14
end
end Go.Ideal
namespace Go.Ideal
open Go.RowKit
set_option maxHeartbeats 1000000
section
variable {P:Program} {opn:Nat->Bool} {ntm:Nat} {call:Nat->List IV->aN->Option (IV×aN)}
theorem Od {K:Kx} {H:gC} {h:aN} {iv:IV} {x:Value} {len:Nat} (hv:bS K H h iv x) (hs:∀b,iv≠.str b) (hl:lenOf iv=some len):∃ao cap,x = .slice ao len cap/\len≤cap/\(len≠0->∃a,ao=some a):=by
 cases hv<;>simp only[lenOf]at hl<;>try (cases hl;done)
 case str b=>exact absurd rfl (hs _)
 case nils=>injection hl with hl;subst hl;exact⟨none,0,rfl,aK _,fun h=>absurd rfl h⟩
 case sl=>injection hl with hl;subst hl;exact⟨some _,_,rfl,by assumption,fun _=>⟨_,rfl⟩⟩
 case ro=>injection hl with hl;subst hl;exact⟨some _,_,rfl,by assumption,fun _=>⟨_,rfl⟩⟩
 case esl a=>injection hl with hl;subst hl;exact⟨some a,0,rfl,aK _,fun h=>absurd rfl h⟩
theorem m_ok (hc:qH P call) {n0:Nat} {code:Code} {sc:dJ} (ml:vD P opn ntm code sc):∀{n:Nat} {K:Kx} {h:aN} {w:World} {σ:Fr} {a:Act} {ex:Ex} {s1:St} {Q:Exit->Act->World->Prop},
 fB call opn (fun g s=>dO g n0 s) sc (σ,h)=some (ex,s1)->dK K h w.heap σ a.tmps->a.tmps.size=ntm->a.defers=[]->
 (∀K1 a1 w1,jC (fun _=>False) K h w.heap σ a.tmps K1 s1.2 w1.heap s1.1 a1.tmps->((w1.os,w1.tape),w1.output)=((w.os,w.tape),w.output)->Mk K1 s1.2 s1.1 a1.tmps w1 w.heap.size a1.defers->Q (Ar ex) a1 w1)->code.wpIn (qO none) n P Q a w:=by
 induction ml with
 |@seqL a b a' b' ha hb iha=>
  intro n K h w σ act ex s1 Q ev g hn hd hq
  simp only[fB,aA]at ev
  obtain⟨⟨e0,s0⟩,hs0,ev⟩:=ev
  refine wpIn_seq (iha hs0 g hn hd fun K1 a1 w1 S hio hm=>?_)
  cases e0 with
  |normal=>
   simp only[Ar,Exit.then]
   refine Qy (L:=fun _=>False) hc hb (fun _ h=>h.elim) ev S.2.1 (by rw[S.2.2.1];exact hn) fun K2 a2 w2 S2 hd2=>hq K2 a2 w2 (S.trans S2) (by injection hd2 with h1 h2;exact h2.trans hio) ?_
   have hds:a2.defers=a1.defers:=by injection hd2
   rcases hm with hm|⟨D,h1,h2,h3,h4,h5⟩
   ·exact .inl (hds.trans hm)
   ·have hlt:=fI h3
    exact .inr ⟨D,hds.trans h1,h2,(S2.1.fr D hlt h4).trans h3,fun hm=>h4 (S2.1.mn D hlt hm),fun t ht=>h5 t (S2.1.st' t D ht hlt)⟩
  |exit i=>
   simp only[aD,aM]at ev
   obtain⟨rfl,rfl⟩:=ev
   exact hq K1 a1 w1 S hio hm
  |ret=>
   simp only[aD,aM]at ev
   obtain⟨rfl,rfl⟩:=ev
   exact hq K1 a1 w1 S hio hm
 |@seqR a b a' b' ha hb ihb=>
  intro n K h w σ act ex s1 Q ev g hn hd hq
  simp only[fB,aA]at ev
  obtain⟨⟨e0,s0⟩,hs0,ev⟩:=ev
  refine wpIn_seq (Qy (L:=fun _=>False) hc ha (fun _ h=>h.elim) hs0 g hn fun K1 a1 w1 S hd1=>?_)
  have hds:a1.defers=[]:=by injection hd1 with h1 h2;exact h1.trans hd
  have hio:((w1.os,w1.tape),w1.output)=((w.os,w.tape),w.output):=by injection hd1
  cases e0 with
  |normal=>
   simp only[Ar,Exit.then]
   refine ihb ev S.2.1 (by rw[S.2.2.1];exact hn) hds fun K2 a2 w2 S2 hio2 hm=>hq K2 a2 w2 (S.trans S2) (hio2.trans hio) ?_
   rcases hm with hm|⟨D,h1,h2,h3⟩
   ·exact .inl hm
   ·exact .inr ⟨D,h1,cQ S.1.size h2,h3⟩
  |exit i=>
   simp only[aD,aM]at ev
   obtain⟨rfl,rfl⟩:=ev
   exact hq K1 a1 w1 S hio (.inl hds)
  |ret=>
   simp only[aD,aM]at ev
   obtain⟨rfl,rfl⟩:=ev
   exact hq K1 a1 w1 S hio (.inl hds)
 |@chunk f S E sz ts tp tf G b c id ops its assign body asg bdy live0 live1 live2 lx live3 live4 live5 LC R A=>
  intro n K h w σ act ex s1 Q ev g hn hd hq
  obtain⟨s2,iv,len,exl,s4,h2,hiv,hstr,hlen,hlt,hloop,hout⟩:=Wy R.hts R.g1 A.hG A.hG2 ev
  obtain⟨oc,cc,hoc,hop,hcal,harg,hdst,hgrd⟩:=A.oc
  have hgG:=R.g1
  refine wpIn_seq (wpIn_region ?_)
  rw[Ep,<-A.hl,List.range'_concat]
  refine pT ?_
  refine Qa (L:=fun _=>False) hc 0 (fun j it hj=>by rw[bV];exact A.hi j it hj) g hn (fun t it ht hm=>ht.elim) h2 fun K1 a1 w1 S0 hd1=>?_
  have hds:a1.defers=[]:=by injection hd1 with h1 h2;exact h1.trans hd
  have hio:((w1.os,w1.tape),w1.output)=((w.os,w.tape),w.output):=by injection hd1
  have Sk:=S0.trans (iC (L:=fun _=>False) S0.2.1 live0)
  have gk:=Sk.2.1
  obtain⟨x,hx,hvx⟩:=gk.fr.val ts iv hiv R.hts
  obtain⟨ao,cap,rfl,hlc,hao⟩:=Od hvx hstr hlen
  have hxs:a1.eval (.tmp ts) = .slice ao len cap:=by simp only[Act.eval,dA,hx,kC]
  simp only[Eu,wpOpsIn,bV,kM,hoc,Region.wanted,hgrd,if_true]
  refine⟨fun _ _=>trivial,?_⟩
  have hrun:(execOp a1.eval oc).run P w1=(callFunc f #[.slice ao len cap,.int .i64 c]).run P w1:=by
   simp only[execOp,hop,resolve,hcal,harg,Deferred.ofValue,Act.eval,aO,aU,aH,Go.invoke]
   congr 1
   simp
   rw[hxs];rfl
  rw[show Oper.semAt none a1.eval oc=execOp a1.eval oc from rfl,hrun,pP ⟨LC.fn,LC.hf,LC.hg,by rw[LC.hb];rfl⟩,Oper.uponIn_enter]
  refine⟨(fun h=>by cases h),Kp ((Gs LC ao len cap c (by have:=R.hc;omega) w1).mono ?_)⟩
  rintro e w2 ⟨rfl,rfl⟩
  simp only[Exit.then,hdst,Act.put]
  have hsz1:a1.tmps.size=ntm:=by rw[S0.2.2.1];exact hn
  have r0:=lU.start gk (.cells #[.slice ao len cap] S) (.cells #[.int .i64 c] LC.I)
  have hin:∀t v,(s2.1.keep live0).get t=some v->t<lK/\t≠tf:=fun t v e=>A.h0 t (tZ e)
  have r1:=r0.swap (a:=a1.tmps.setIfInBounds tf (.func (.func LC.fi) #[] #[.pointer (some ⟨w1.heap.size,0,none⟩),.pointer (some ⟨w1.heap.size+1,0,none⟩)]))
   (fun t v e _=>by rw[bO,if_neg (fun h=>(hin t v e).2 h.symm)]) (fun t v e h=>by have:=(hin t v e).1;omega)
  have gf:∀{σ:Fr},(∀t v,σ.get t=some v->lK≤t->∃iv,v = .val iv)->∀t,lK≤t->bF σ t=true/\∀cs,σ.get t≠some (.box cs):=by
   intro σ hσ t ht
   have:∀cs,σ.get t≠some (.box cs):=fun cs e=>by obtain⟨iv,h⟩:=hσ t _ e ht;cases h
   refine⟨?_,this⟩
   simp only[bF]
  have gput:∀{σ:Fr},(∀t v,σ.get t=some v->lK≤t->∃iv,v = .val iv)->∀(u:Nat) (x:IV),∀t v,(σ.put u (.val x)).get t=some v->lK≤t->∃iv,v = .val iv:=by
   intro σ hσ u x t v e ht
   rw[bL]at e
   split at e
   ·injection e with e;exact⟨x,e.symm⟩
   ·exact hσ t v e ht
  have q0:∀t v,(s2.1.keep live0).get t=some v->lK≤t->∃iv,v = .val iv:=fun t v e h=>by have:=(hin t v e).1;omega
  have f0:=gf q0 G (by omega)
  have U0:=fY (L:=fun _=>False) r1.good (t:=G) (by omega) (.int .i64 0) f0.1 f0.2
  have q1:=gput q0 G (.int .i64 0)
  have f1:=gf q1 (G+1) (by omega)
  have U1:=U0.trans (fY (L:=fun _=>False) U0.2.1 (t:=G+1) (by omega) (.int .i64 (len:Int)) f1.1 f1.2)
  have q2:=gput q1 (G+1) (.int .i64 (len:Int))
  have f2:=gf q2 (G+2) (by omega)
  have U2:=U1.trans (fY (L:=fun _=>False) U1.2.1 (t:=G+2) (by omega) (.bool true) f2.1 f2.2)
  have q3:=gput q2 (G+2) (.bool true)
  have U3:=U2.trans (iC (L:=fun _=>False) U2.2.1 live1)
  have q4:∀t v,(((((s2.1.keep live0).put G (.val (.int .i64 0))).put (G+1) (.val (.int .i64 len))).put (G+2) (.val (.bool true))).keep live1).get t=some v->lK≤t->∃iv,v = .val iv:=fun t v e h=>q3 t v (kH _ _ _ e).1 h
  have r2:=r1.same U3
  have hts:ts≠tf:=(A.h0 ts (tZ hiv)).2
  refine wpIn_block (Os LC R hc (N0:=n0) (m0:=n0) r2.good (by simp only[jX];exact hsz1) q4 (nL A.hG (by rw[dW (by omega),dW (by omega),bL,if_pos rfl]))
   (by simp only[bO,if_true];rw[if_pos (by rw[hsz1];exact A.ht)]) (by simp only[bO];rw[if_neg (Ne.symm hts)];exact hx)
   ?_ ?_ (r2.mn _ (by omega) (by omega)).1 (r2.mn _ (by omega) (by omega)).1 hao hlc (by omega) hloop ?_)
  ·have:=(Below.heap_alloc (w1.alloc (.cells #[.slice ao len cap] S)) (.cells #[.int .i64 c] LC.I) w1.heap.size (by simp only[World.size_alloc];omega)).trans (World.alloc_heap_new w1 (.cells #[.slice ao len cap] S))
   simp only[World.cell?,this]
   rfl
  ·have:=World.alloc_heap_new (w1.alloc (.cells #[.slice ao len cap] S)) (.cells #[.int .i64 c] LC.I)
   rw[World.size_alloc]at this
   simp only[World.cell?,this]
   rfl
  ·intro K' w' r hD
   have fin:∀{M2:Nat->Prop} (E2:oF K h w.heap (fZ K h σ act.tmps) K1 s2.2 ((w1.alloc (.cells #[.slice ao len cap] S)).alloc (.cells #[.int .i64 c] LC.I)).heap M2) {σ9:Fr} {h9:aN},lU K1 s2.2 ((w1.alloc (.cells #[.slice ao len cap] S)).alloc (.cells #[.int .i64 c] LC.I)) M2 K' h9 w' σ9 (a1.tmps.setIfInBounds tf (.func (.func LC.fi) #[] #[.pointer (some ⟨w1.heap.size,0,none⟩),.pointer (some ⟨w1.heap.size+1,0,none⟩)]))->
    jC (fun _=>False) K h w.heap σ act.tmps K' h9 w'.heap σ9 (a1.tmps.setIfInBounds tf (.func (.func LC.fi) #[] #[.pointer (some ⟨w1.heap.size,0,none⟩),.pointer (some ⟨w1.heap.size+1,0,none⟩)]))/\
    ((w'.os,w'.tape),w'.output)=((w.os,w.tape),w.output)/\
    Mk K' h9 σ9 (a1.tmps.setIfInBounds tf (.func (.func LC.fi) #[] #[.pointer (some ⟨w1.heap.size,0,none⟩),.pointer (some ⟨w1.heap.size+1,0,none⟩)])) w' w.heap.size [mark ((w1.alloc (.cells #[.slice ao len cap] S)).alloc (.cells #[.int .i64 c] LC.I)).heap.size]:=by
    intro M2 E2 σ9 h9 r9
    have hm9:=r9.mn _ (aK _) (by omega)
    refine⟨⟨E2.trans r9.ext,r9.good,by simp only[jX];exact S0.2.2.1,fun t ht=>ht.elim⟩,(r9.io.trans (r2.io.trans hio)),.inr ⟨_,rfl,?_,hD,hm9.1,hm9.2⟩⟩
    have:=S0.1.size
    simp only[World.size_alloc];omega
   refine⟨fun he=>?_,fun he=>?_⟩
   ·rcases hout with ⟨_,rfl,rfl⟩|⟨h',_⟩|⟨h',_⟩
    ·obtain⟨z1,z2,z3⟩:=fin (Sk.1.trans r2.ext) (r.same (iC (L:=fun _=>False) r.good live5))
     exact hq K' _ w' z1 z2 (by rw[hds];exact z3)
    ·rw[h']at he;cases he
    ·exact absurd he h'
   ·rcases hout with ⟨h',_⟩|⟨_,rfl,rfl⟩|⟨_,h'⟩
    ·rw[h']at he;cases he
    ·obtain⟨z1,z2,z3⟩:=fin (Sk.1.trans r2.ext) r
     exact hq K' _ w' z1 z2 (by rw[hds];exact z3)
    ·exact absurd he h'
end
end Go.Ideal
namespace Go.Ideal
open Go.RowKit
set_option maxHeartbeats 1000000
theorem Ny {K:Kx} {h:aN} {H:gC} {M:Nat->Prop} {K1:Kx} {h1:aN} {W:World} {M1:Nat->Prop} (E:oF K h H M K1 h1 W.heap M1) {D:Nat} (hD:H.size≤D) (hst:∀t,¬K1.st t D) (o:Obj):oF K h H M K1 h1 (W.putObj D o).heap M1 where
 len:=E.len
 gen:=E.gen
 st:=fun t x hx=>⟨(E.st t x hx).1,(World.putObj_heap_other (fun he=>hst t (by rw[<-he];exact(E.st t x hx).1))).trans (E.st t x hx).2⟩
 st':=E.st'
 size:=by rw[World.putObj_size];exact E.size
 fr:=fun x hx hm=>(World.putObj_heap_other (by omega)).trans (E.fr x hx hm)
 mn:=E.mn
 nst:=fun t x hx=>(E.nst t x hx).imp id fun⟨q1,CS,el,fr,q2⟩=>⟨q1,CS,el,fr,(World.putObj_heap_other (fun he=>hst t (by rw[<-he];exact hx))).trans q2⟩
theorem Ws {P : Program} {opn : Nat -> Bool} {f : Nat} {fn : Func} {code : Code} {sf : mO} (hf : P.funcs[f]? = some fn) (hname : (fn.name == "runtime.NumGoroutine") = false) (hb : fn.body = some code) (ml : vD P opn fn.ntmps code sf.body)
 (hres:vA P fn.results.toList sf.res) (hsz:sf.np≤fn.ntmps):Ri P opn f sf:=by
 refine⟨⟨fn,hf,hname,by simp[hb]⟩,fun call hcall n args h r e K w args' iv hargs=>?_⟩
 simp only[aA]at e
 obtain⟨σ0,hσ0,⟨ex,s1⟩,hs1,e⟩:=e
 simp only[start]at hσ0
 split at hσ0
 case isFalse=>cases hσ0
 rename_i hnp
 injection hσ0 with hσ0;subst hσ0
 have hlen:args'.size=args.length:=by simpa using hargs.1
 have hfit:args'.size≤fn.ntmps:=by omega
 refine(callsIn_wide (n:=0)).1 (callsIn_of_wp_marks hf hb trivial ?_ rfl)
 have hno:∀(t:Nat) (v:SV),(fA 0 args).get t=some v->∃x,args[t]? = some x/\v = .val x:=fun t v e=>by
  rw[sY,if_pos (fO _),hJ]at e
  cases hx:args[t]? with
  |none=>simp[hx]at e
  |some x=>simp[hx]at e;exact⟨x,rfl,e.symm⟩
 have hnb:∀B,¬oN (fA 0 args) (args'++Array.replicate (fn.ntmps-args'.size) undef) B:=by
  rintro B ⟨t,cs,e1,_⟩
  obtain⟨x,_,e2⟩:=hno t _ e1
  cases e2
 have g:dK K h w.heap (fA 0 args) (args'++Array.replicate (fn.ntmps-args'.size) undef):=by
  refine⟨iv,⟨fun t v e _=>?_,fun t cs e=>?_,fun t s o e=>?_,fun s t cs cs' B e=>?_⟩⟩
  ·obtain⟨x,e1,e2⟩:=hno t _ e
   injection e2 with e2;subst e2
   obtain⟨y,h1,h2⟩:=hargs.get e1
   refine⟨y,?_,h2⟩
   have hlt:=(aJ.1 e1).1
   rw[jA (by omega)]
   simpa using h1
  ·obtain⟨x,_,e2⟩:=hno t _ e;cases e2
  ·obtain⟨x,_,e2⟩:=hno t _ e;cases e2
  ·obtain⟨x,_,e2⟩:=hno s _ e;cases e2
 refine m_ok hcall (n0:=n) ml hs1 g (by simp;omega) rfl fun K1 a1 w1 S hio hm=>?_
 have main:∀(w2:World),dK K1 s1.2 w2.heap s1.1 a1.tmps->oF K h w.heap (fZ K h (fA 0 args) (args'++Array.replicate (fn.ntmps-args'.size) undef)) K1 s1.2 w2.heap (fZ K1 s1.2 s1.1 a1.tmps)->((w2.os,w2.tape),w2.output)=((w.os,w.tape),w.output)->
  ∃v,(results fn a1.tmps).run P w2 = .ok v w2/\∃v' K1,Ending.returned v = .returned v'/\((w2.os,w2.tape),w2.output)=((w.os,w.tape),w.output)/\oF K h w.heap (own K h) K1 r.2 w2.heap (own K1 r.2)/\qN K1 r.2 w2.heap/\bS K1 w2.heap r.2 r.1 v':=by
  intro w2 g2 E2 hio2
  have fin:∀vs:List IV,dM (iM s1) sf.res=some vs->r=(gK vs,s1.2)->∃v,(results fn a1.tmps).run P w2 = .ok v w2/\∃v' K1,Ending.returned v = .returned v'/\((w2.os,w2.tape),w2.output)=((w.os,w.tape),w.output)/\oF K h w.heap (own K h) K1 r.2 w2.heap (own K1 r.2)/\qN K1 r.2 w2.heap/\bS K1 w2.heap r.2 r.1 v':=by
   rintro vs hvs rfl
   obtain⟨xs,h1,h2⟩:=Jv g2 hres hvs
   have hrun:(results fn a1.tmps).run P w2 = .ok (if h:xs.toArray.size=1 then xs.toArray[0] else .tuple xs.toArray) w2:=by
    rw[yC,Array.mapM_eq_mapM_toList]
    simp only[aO,Sem.run_map,h1,aH,aU]
   refine⟨_,hrun,_,K1,rfl,hio2,⟨E2.len,E2.gen,E2.st,E2.st',E2.size,fun B hB ho=>E2.fr B hB fun hm=>hm.elim ho (hnb B),fun B hB ho=>(E2.mn B hB (.inl ho)).elim id fun hb=>absurd hb (hnb B),E2.nst⟩,g2.inv,?_⟩
   match vs,xs,h2 with
   |[],[],h2=>exact vK
   |[v],[x],h2=>exact h2.2 0 (by simp) (by simp)
   |v::v'::vs,x::x'::xs,h2=>exact bS.tup_iff.2 ⟨_,rfl,h2⟩
   |[],_::_,h2=>simp[dE]at h2
   |_::_,[],h2=>simp[dE]at h2
   |[v],x::x'::xs,h2=>simp[dE]at h2
   |v::v'::vs,[x],h2=>simp[dE]at h2
  simp only[jU]at e
  cases ex with
  |exit i=>cases e
  |normal=>
   simp only[aA]at e
   obtain⟨vs,hvs,e⟩:=e
   injection e with e
   exact fin vs hvs e.symm
  |ret=>
   simp only[aA]at e
   obtain⟨vs,hvs,e⟩:=e
   injection e with e
   exact fin vs hvs e.symm
 have Ft:LeavesInM Fence.wide 0 P fn a1.tmps (fun e w'=>∃v K1,e = .returned v/\((w'.os,w'.tape),w'.output)=((w.os,w.tape),w.output)/\oF K h w.heap (own K h) K1 r.2 w'.heap (own K1 r.2)/\qN K1 r.2 w'.heap/\bS K1 w'.heap r.2 r.1 v) a1.defers .returning w1:=by
  rcases hm with hm|⟨D,h1,h2,h3,h4,h5⟩
  ·rw[hm]
   exact main w1 S.2.1 S.1 hio
  ·rw[h1]
   refine⟨by simp,.inl ⟨D,_,rfl,run_takeDeferred h3,?_⟩⟩
   exact main _ (By S.2.1 (by rw[World.putObj_size];exact aK _) (fun x hm=>World.putObj_heap_other (fun he=>h4 (by rw[<-he];exact hm))) (fun t x hx=>World.putObj_heap_other (fun he=>h5 t (by rw[<-he];exact hx)))) (Ny S.1 h2 h5 _) hio
 cases ex with
 |exit i=>simp[jU]at e
 |normal=>exact Ft
 |ret=>exact Ft
structure lZ where
 f:Nat
 S:Nat
 E:Nat
 sz:Nat
 ts:Nat
 tp:Nat
 tf:Nat
 G:Nat
 b:Nat
 c:Nat
def Iw (P:Program) (opn:Nat->Bool) (ntm:Nat) (k:lZ) (ops:Array Oper) (its:List cH) (live0 live1:List Nat):Bool:=
 tE P ops ntm ops.toList.dropLast its&&(match ops.toList.getLast? with
  |some oc=>(match oc.op with
   |.call cc=>(match cc.callee,cc.args.toList with
    |.value (.func g),[.tmp t,.const (.int .i64 n)]=>g==k.f&&t==k.ts&&n==(k.c:Int)
    |_,_=>false)
   |_=>false)&&oc.dst==some k.tf&&oc.guard.isNone
  |none=>false)&&(decide (k.tf<ntm)&&(live0.all fun t=>decide (t<lK/\t≠k.tf))&&live1.contains k.G&&live1.contains (k.G+2))
theorem Mq {P:Program} {opn:Nat->Bool} {ntm:Nat} {k:lZ} {ops:Array Oper} {its:List cH} {live0 live1:List Nat} (e:Iw P opn ntm k ops its live0 live1=true):Lb P opn ntm k.ts k.tf k.G k.f k.c ops its live0 live1:=by
 simp only[Iw,aF,decide_eq_true_eq,bE,pN]at e
 obtain⟨⟨e1,e2⟩,⟨⟨e3,e4⟩,e5⟩,e6⟩:=e
 obtain⟨h1,h2⟩:=vY e1
 split at e2
 case h_2=>cases e2
 rename_i oc hoc
 simp only[aF,beq_iff_eq,mG]at e2
 obtain⟨⟨e2,e7⟩,e8⟩:=e2
 have hne:ops.toList≠[]:=by intro h;rw[h]at hoc;cases hoc
 have hlen:ops.toList.length=its.length+1:=by
  have:=fN.2 hne
  rw[h1,List.length_dropLast];omega
 have hlast:ops[its.length]? = some oc:=by
  rw[List.getLast?_eq_getElem?,hlen]at hoc
  simpa using hoc
 split at e2
 case h_2=>cases e2
 rename_i cc hcc
 split at e2
 case h_2=>cases e2
 rename_i g t n hcal harg
 simp only[aF,beq_iff_eq]at e2
 obtain⟨⟨rfl,rfl⟩,rfl⟩:=e2
 refine⟨by have:ops.toList.length=ops.size:=rfl;omega,fun j it hj=>?_,⟨oc,cc,hlast,hcc,hcal,?_,e7,e8⟩,e3,e4,e5,e6⟩
 ·obtain⟨o,ho,il⟩:=h2 j it hj
  refine⟨o,?_,il⟩
  rw[List.getElem?_dropLast]at ho
  split at ho
  ·simpa using ho
  ·cases ho
 ·have:=congrArg List.toArray harg
  simpa using this
def Iv (P:Program) (opn:Nat->Bool) (ntm:Nat) (k:lZ) (assign body:Code) (asg bdy:dJ) (live2 live4:List Nat):Bool:=
 cX P opn ntm assign asg&&cX P opn ntm body bdy&&(match asg with | .reg _ _=>true|_=>false)&&
 (match bdy.rets with
   |some l=>l.all fun t=>decide (t<lK)&&(t != k.tp&&(!asg.dsts.contains t&& !bdy.dsts.contains t))
   |none=>false)&&bdy.noExit []&&decide (lK≤k.G/\k.G+4<qU)&&(!asg.dsts.contains k.G&& !bdy.dsts.contains k.G)&&
 (live4.all fun t=>(decide (t<lK)&&(t != k.tp&&(!asg.dsts.contains t&& !bdy.dsts.contains t)))||t==k.G)&&live4.contains k.G&&live2.contains k.G&&live2.contains (k.G+1)&&live2.contains (k.G+2)&&live2.contains k.ts&& !live2.contains k.tp&&
 decide (k.ts<lK/\k.tp<lK/\k.tp<ntm/\1≤k.c/\k.c<4611686018427387904)
theorem Mp {P:Program} {opn:Nat->Bool} {ntm:Nat} {k:lZ} {assign body:Code} {asg bdy:dJ} {live2 live4:List Nat} (e:Iv P opn ntm k assign body asg bdy live2 live4=true):xQ P opn ntm k.ts k.tp k.G k.c assign body asg bdy live2 live4:=by
 simp only[Iv,aF,decide_eq_true_eq]at e
 obtain⟨⟨⟨⟨⟨⟨⟨⟨⟨⟨⟨⟨⟨⟨e1,e2⟩,e3⟩,e4⟩,e5⟩,e6⟩,e7⟩,e8⟩,e9⟩,e10⟩,e11⟩,e12⟩,e13⟩,e14⟩,e15⟩:=e
 simp only[dU,bE,cV,aF,decide_eq_true_eq,bne_iff_ne,beq_iff_eq,pN]at e7 e8 e9 e10 e11 e12 e13 e14
 refine⟨nS e1,nS e2,?_,?_,e5,e6.1,e6.2,?_,?_,fun t ht=>?_,e9,e10,e11,e12,e13,?_,e15.1,e15.2.1,e15.2.2.1,e15.2.2.2.1,e15.2.2.2.2⟩
 ·cases asg<;>simp only at e3<;>first|exact⟨_,_,rfl⟩|cases e3
 ·split at e4
  ·rename_i l hl
   simp only[dU,bE,aF,decide_eq_true_eq,bne_iff_ne]at e4
   exact⟨l,hl,fun t ht=>⟨(e4 t ht).1,(e4 t ht).2.1,by simpa using (e4 t ht).2.2.1,by simpa using (e4 t ht).2.2.2⟩⟩
  ·cases e4
 ·simpa using e7.1
 ·simpa using e7.2
 ·rcases e8 t ht with h|h
  ·exact .inl ⟨h.1,h.2.1,by simpa using h.2.2.1,by simpa using h.2.2.2⟩
  ·exact .inr h
 ·simpa using e14
def zP (P:Program) (opn:Nat->Bool) (ntm:Nat) (k:lZ):Code->dJ->Bool
 |.seq (.region _ ops false) (.block b (.rangeFunc (.tmp tf) ps assign body)),.seq (.reg its live0) (.seq (.block b' (.seq (.reg pre live1) (.seq (.cond x .skip .bad) (.loop (.seq (.reg hd live2) (.seq (.cond y .skip (.seq (.reg e1 lx) (.exit b2))) (.seq (.reg pt live3) (.seq asg (.seq bdy (.reg tl live4)))))))))) (.reg e2 live5))=>
  decide (b=k.b/\b'=k.b/\b2=k.b/\tf=k.tf/\ps = #[k.tp]/\e1=[]/\e2=[]/\x = .t (k.G+2)/\y = .t (k.G+2)/\
   pre=[⟨0,none,some k.G,.mov (.c (.int .i64 0))⟩,⟨1,none,some (k.G+1),.len false (.t k.ts)⟩,⟨2,none,some (k.G+2),.bin .lss (.t (k.G+1)) (.c (.int .i64 32768))⟩]/\
   hd=tS k.ts k.G (k.G+1) (k.G+2) 0 1/\pt=xG k.ts k.tp k.G (k.G+1) (k.G+3) (k.G+4) 0 1 2 3 k.sz k.c/\tl=[⟨0,none,some k.G,.bin .add (.t k.G) (.c (.int .i64 k.c))⟩])&&
  (Iv P opn ntm k assign body asg bdy live2 live4&&Iw P opn ntm k ops its live0 live1)
 |_,_=>false
theorem Gu {P:Program} {opn:Nat->Bool} {ntm:Nat} {k:lZ} (LC:oR P k.f k.S k.E k.sz) {c:Code} {s:dJ} (e:zP P opn ntm k c s=true):vD P opn ntm c s:=by
 unfold zP at e
 split at e
 ·simp only[aF,decide_eq_true_eq]at e
  obtain⟨⟨rfl,rfl,rfl,rfl,rfl,rfl,rfl,rfl,rfl,rfl,rfl,rfl,rfl⟩,h1,h2⟩:=e
  exact .chunk LC (Mp h1) (Mq h2)
 ·cases e
def Mr (P:Program) (opn:Nat->Bool) (ntm:Nat) (k:lZ):Code->dJ->Bool
 |.seq a b,.seq a' b'=>zP P opn ntm k (.seq a b) (.seq a' b')||((Mr P opn ntm k a a'&&cX P opn ntm b b')||(Mr P opn ntm k b b'&&cX P opn ntm a a'))
 |_,_=>false
theorem Ue {P:Program} {opn:Nat->Bool} {ntm:Nat} {k:lZ} (LC:oR P k.f k.S k.E k.sz):∀{c:Code} {s:dJ},Mr P opn ntm k c s=true->vD P opn ntm c s:=by
 intro c
 induction c with
 |seq a b iha ihb=>
  intro s e
  cases s<;>simp only[Mr]at e<;>try (cases e;done)
  simp only[cV,aF]at e
  rcases e with e|⟨e1,e2⟩|⟨e1,e2⟩
  ·exact Gu LC e
  ·exact .seqL (iha e1) (nS e2)
  ·exact .seqR (nS e2) (ihb e1)
 |_=>intro s e;simp[Mr]at e
def Gt (P:Program) (opn:Nat->Bool) (k:lZ) (fn:Func) (sf:mO):Bool:=
 (fn.name == "runtime.NumGoroutine") == false && ((match fn.body with | some c => Mr P opn fn.ntmps k c sf.body | none => false) && (nR P fn.results.toList sf.res && decide (sf.np ≤ fn.ntmps)))
theorem Sq {P:Program} {opn:Nat->Bool} {f:Nat} {fn:Func} {sf:mO} (k:lZ) (hf:P.funcs[f]? = some fn) (LC:oR P k.f k.S k.E k.sz) (e:Gt P opn k fn sf=true):cO P opn f sf:=by
 simp only[Gt,aF,beq_iff_eq,decide_eq_true_eq]at e
 obtain⟨e1,e2,e3,e4⟩:=e
 split at e2
 ·rename_i c hc
  exact⟨.inr (.inr (Ws hf e1 hc (Ue LC e2) (rV e3) e4))⟩
 ·cases e2
def Code.possR:Code->List String
 |.region _ ops _=>ops.toList.map (·.pos)
 |.seq a b=>Code.possR a++Code.possR b
 |.cond _ a b=>Code.possR a++Code.possR b
 |.block _ a=>Code.possR a
 |.loop a=>Code.possR a
 |_=>[]
def Su (fn : Func) (i : Nat) : String := (Code.possR (fn.body.getD .skip)).getD i ""
def Ud {P:Program} {f S E sz I B Q Y X Z W fi:Nat} {fn fn2:Func} (hf:P.funcs[f]? = some fn) (hb:fn.body=some (rU (Su fn) S I B Q Y X Z fi)) (hn:fn.ntmps=9) (hr:fn.results = #[.tmp 4])
    (hf2:P.funcs[fi]? = some fn2) (hb2:fn2.body=some (uE (Su fn2) S I B W)) (hn2:fn2.ntmps=31) (hr2:fn2.results = #[]) (hS:P.underlying S=some (.slice E)) (hI:P.underlying I=some (.int .i64)) (hB:P.underlying B=some .bool)
    (hsz : (P.info? E).map (·.size) = some sz) (mixed : P.follows .mixedOrders = true) (hg : (fn.name == "runtime.NumGoroutine") = false) (hg2 : (fn2.name == "runtime.NumGoroutine") = false) : oR P f S E sz :=
 ⟨Su fn,Su fn2,I,B,Q,Y,X,Z,W,fi,fn,fn2,hf,hb,hn,hr,hf2,hb2,hn2,hr2,hS,hI,hB,fun w=>fR hsz,mixed,hg,hg2⟩
end Go.Ideal
