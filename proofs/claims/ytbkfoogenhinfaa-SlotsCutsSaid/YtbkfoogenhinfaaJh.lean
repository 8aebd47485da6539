/- The contract of slices.Concat of rows of bytes. -/
import Derived.Test.YtbkfoogenhinfaaJc
set_option linter.unusedVariables false
set_option linter.unusedSimpArgs false
set_option linter.unusedSectionVars false
namespace Go.Ideal
def growFn (ti:Nat):SFn:=⟨2,[.tmp 4],
 .seq (.reg [⟨0,none,(some 4),.mov (.c .nils)⟩] [0,1])
 (.seq (.seq (.reg [⟨0,none,(some 5),.mov (.t 1)⟩,
   ⟨1,none,(some 6),.bin .lss (.t 5) (.c (.int .i64 0))⟩] [0,1,6])
  (.cond (.t 6)
   (.reg [⟨0,none,(some 7),.mkI ti (.c (.str [99,97,110,110,111,116,32,98,101,32,110,101,103,97,116,105,118,101]))⟩,
     ⟨1,none,none,.bad⟩] [0,1])
   (.skip)))
 (.seq (.seq (.reg [⟨0,none,(some 8),.mov (.t 1)⟩,
   ⟨1,none,(some 9),.mov (.t 0)⟩,
   ⟨2,none,(some 10),.cap (.t 9)⟩,
   ⟨3,none,(some 11),.mov (.t 0)⟩,
   ⟨4,none,(some 12),.len false (.t 11)⟩,
   ⟨5,none,(some 13),.bin .sub (.t 10) (.t 12)⟩,
   ⟨6,none,(some 14),.bin .sub (.t 8) (.t 13)⟩,
   ⟨7,none,(some 1),.mov (.t 14)⟩] [0,1])
  (.seq (.reg [⟨0,none,(some 15),.mov (.t 1)⟩,
    ⟨1,none,(some 16),.bin .gtr (.t 15) (.c (.int .i64 0))⟩] [0,1,16])
  (.cond (.t 16)
   (.reg [⟨0,none,(some 17),.mov (.t 0)⟩,
     ⟨1,none,(some 18),.mov (.t 0)⟩,
     ⟨2,none,(some 19),.cap (.t 18)⟩,
     ⟨3,none,(some 20),.slL 1 (.t 17) none (some (.t 19)) none⟩,
     ⟨4,none,(some 21),.mov (.t 1)⟩,
     ⟨5,none,(some 22),.appz 1 1 [(.int .u8 0)] (.t 20) (.t 21)⟩,
     ⟨6,none,(some 23),.mov (.t 0)⟩,
     ⟨7,none,(some 24),.len false (.t 23)⟩,
     ⟨8,none,(some 25),.slL 1 (.t 22) none (some (.t 24)) none⟩,
     ⟨9,none,(some 0),.mov (.t 25)⟩] [0])
   (.skip))))
 (.seq (.reg [⟨0,none,(some 26),.mov (.t 0)⟩,
   ⟨1,none,(some 4),.mov (.t 26)⟩] [4])
 (.ret))))⟩
def catBody1 (ti:Nat):SCode:=(.seq (.reg [⟨0,none,(some 12),.bin .lss (.t 11) (.t 10)⟩] [0,3,9,10,11,12])
     (.seq (.cond (.t 12)
       (.skip)
       (.exit 0))
     (.seq (.block 1 (.seq (.reg [⟨0,none,(some 13),.iadr 1 (.t 9) (.t 11)⟩,
           ⟨1,none,(some 14),.load none (.t 13)⟩,
           ⟨2,none,(some 5),.mov (.t 14)⟩] [0,3,5,9,10,11])
       (.seq (.reg [⟨0,none,(some 15),.mov (.t 3)⟩,
         ⟨1,none,(some 16),.mov (.t 5)⟩,
         ⟨2,none,(some 17),.len false (.t 16)⟩,
         ⟨3,none,(some 18),.bin .add (.t 15) (.t 17)⟩,
         ⟨4,none,(some 3),.mov (.t 18)⟩] [0,3,9,10,11])
       (.seq (.reg [⟨0,none,(some 19),.mov (.t 3)⟩,
         ⟨1,none,(some 20),.bin .lss (.t 19) (.c (.int .i64 0))⟩] [0,3,9,10,11,20])
       (.cond (.t 20)
        (.reg [⟨0,none,(some 21),.mkI ti (.c (.str [108,101,110,32,111,117,116,32,111,102,32,114,97,110,103,101]))⟩,
          ⟨1,none,none,.bad⟩] [0,3,9,10,11])
        (.skip))))))
     (.reg [⟨0,none,(some 22),.bin .add (.t 11) (.c (.int .i64 1))⟩,
       ⟨1,none,(some 11),.mov (.t 22)⟩] [0,3,9,10,11]))))
def catBody2:SCode:=(.seq (.reg [⟨0,none,(some 28),.bin .lss (.t 27) (.t 26)⟩] [6,25,26,27,28])
     (.seq (.cond (.t 28)
       (.skip)
       (.exit 2))
     (.seq (.block 3 (.seq (.reg [⟨0,none,(some 29),.iadr 1 (.t 25) (.t 27)⟩,
           ⟨1,none,(some 30),.load none (.t 29)⟩,
           ⟨2,none,(some 8),.mov (.t 30)⟩] [6,8,25,26,27])
       (.reg [⟨0,none,(some 31),.mov (.t 6)⟩,
         ⟨1,none,(some 32),.mov (.t 8)⟩,
         ⟨2,none,(some 33),.app 1 1 (.t 31) (.t 32)⟩,
         ⟨3,none,(some 6),.mov (.t 33)⟩] [6,25,26,27])))
     (.reg [⟨0,none,(some 34),.bin .add (.t 27) (.c (.int .i64 1))⟩,
       ⟨1,none,(some 27),.mov (.t 34)⟩] [6,25,26,27]))))
def catFn (ti g:Nat):SFn:=⟨1,[.tmp 2],
 .seq (.reg [⟨0,none,(some 2),.mov (.c .nils)⟩] [0])
 (.seq (.reg [⟨0,none,(some 3),.mov (.c (.int .i64 0))⟩] [0,3])
 (.seq (.seq (.reg [⟨0,none,(some 9),.mov (.t 0)⟩,
   ⟨1,none,(some 10),.len false (.t 9)⟩,
   ⟨2,none,(some 11),.mov (.c (.int .i64 0))⟩] [0,3,9,10,11])
  (.block 0 (.loop (catBody1 ti))))
 (.seq (.reg [⟨0,none,(some 23),.mov (.t 3)⟩,
   ⟨1,none,(some 24),.call g [(.c .nils),(.t 23)]⟩,
   ⟨2,none,(some 6),.mov (.t 24)⟩] [0,6])
 (.seq (.seq (.reg [⟨0,none,(some 25),.mov (.t 0)⟩,
   ⟨1,none,(some 26),.len false (.t 25)⟩,
   ⟨2,none,(some 27),.mov (.c (.int .i64 0))⟩] [6,25,26,27])
  (.block 2 (.loop catBody2)))
 (.seq (.reg [⟨0,none,(some 35),.mov (.t 6)⟩,
   ⟨1,none,(some 2),.mov (.t 35)⟩] [2])
 (.ret))))))⟩
section
variable {prog:Nat→Option SFn} {opn:Nat→Bool}
theorem wrapN {n:Nat} (h:n≤2^60):IntKind.i64.wrap (n:Int)=(n:Int):=by
 rw[Go.IntWalk.i64_in _ (by omega)]
theorem grow0 {g ti:Nat} (hg:prog g=some (growFn ti)) (h:Heap):callL prog opn g [.nils,.int .i64 (0:Nat)] h=some (.nils,h):=by
 rw[callL_eq,hg]
 simp[growFn,start,initFr,evC,evIts,evIt,evOp,wanted,putO,lptrFree,Fr.get,Fr.put,Fr.keep,SX.val,SX.ev,bin,binI,isShift,lenOf,finish,results1,mapO,tupled,evArgs,IntKind.wrap,IntKind.signed,IntKind.bits]
theorem growS {g ti n:Nat} (hg:prog g=some (growFn ti)) (h:Heap) (h0:0<n) (hn:n*2≤most):callL prog opn g [.nils,.int .i64 n] h=some (.sl h.length n 0 0 n,h++[some ⟨1,List.replicate n [.int .u8 0]⟩]):=by
 have hm:n≤2^60:=by unfold most at hn;omega
 have w0:IntKind.i64.wrap 0=0:=by decide
 have hgt:hget (h++[some ⟨1,List.replicate n [.int .u8 0]⟩]) h.length n=some ⟨1,List.replicate n [.int .u8 0]⟩:=by simp[hget]
 have hap:append h 1 1 .nils (.ro false (List.replicate n [.int .u8 0]))=some (.sl h.length n 0 n n,h++[some ⟨1,List.replicate n [.int .u8 0]⟩]):=by
  simp[append,elems,hn,show n≠0 by omega]
 have hn0:¬((n:Int)<0):=by omega
 have hp0:(0:Int)<n:=by omega
 have hle:(n:Int)*2≤most:=by omega
 rw[callL_eq,hg]
 simp[growFn,start,initFr,evC,evIts,evIt,evOp,wanted,putO,lptrFree,Fr.get,Fr.put,Fr.keep,SX.val,SX.ev,bin,binI,isShift,lenOf,finish,results1,mapO,tupled,evArgs,w0,wrapN hm,h0,optNat,asNat,hn,hn0,hp0,hle,hgt,hap,Int.le_of_lt hp0]
inductive El (h:Heap) (a:IV) (i:Nat) (iv:IV):Prop
 |ro {b es} (e:a = .ro b es) (g:es[i]? = some [iv])
 |sl {b tot off len cap k} (e:a = .sl b tot off len cap) (g:hget h b tot=some k) (hz:k.sz=1) (hi:i<len) (hl:off+len≤tot) (g2:k.es[off+i]? = some [iv])
def f1 (a:IV) (acc n i:Nat):Fr:=[(0,.val a),(3,.val (.int .i64 acc)),(9,.val a),(10,.val (.int .i64 n)),(11,.val (.int .i64 i))]
theorem body1 {ti:Nat} {h:Heap} {a iv:IV} {acc m n i:Nat} (hi:i<n) (hn:n≤2^59) (hacc:acc+m≤2^59) (el:El h a i iv) (hL:lenOf iv=some m) (hs:∀s,iv≠.str s):
 evC (callL prog opn) opn loopL (catBody1 ti) (f1 a acc n i,h)=some (.normal,(f1 a (acc+m) n (i+1),h)):=by
 have hw:IntKind.i64.wrap ((acc:Int)+(m:Int))=((acc+m:Nat):Int):=by rw[←Int.natCast_add];exact wrapN (by omega)
 have hw1:IntKind.i64.wrap ((i:Int)+1)=((i+1:Nat):Int):=by rw[show (i:Int)+1=((i+1:Nat):Int) by omega];exact wrapN (by omega)
 have hneg:¬((acc:Int)+(m:Int)<0):=by omega
 have hlt:(i:Int)<n:=by omega
 have hwa:IntKind.i64.wrap (acc:Int)=acc:=wrapN (by omega)
 have hna:¬((acc:Int)<0):=by omega
 have hi0:(0:Int)≤i:=by omega
 cases el with
 |ro e g=>
  subst e
  cases iv<;>simp[lenOf]at hL<;>try (exact(hs _ rfl).elim)
  all_goals
   try subst hL
   simp[lenOf,catBody1,f1,evC,evIts,evIt,evOp,wanted,putO,lptrFree,Fr.get,Fr.put,Fr.keep,SX.val,SX.ev,bin,binI,isShift,asNat,cellsAt,hw,hw1,hneg,hlt,hwa,hna,g]
 |sl e g hz hil hl g2=>
  subst e
  cases iv<;>simp[lenOf]at hL<;>try (exact(hs _ rfl).elim)
  all_goals
   try subst hL
   simp[lenOf,catBody1,f1,evC,evIts,evIt,evOp,wanted,putO,lptrFree,Fr.get,Fr.put,Fr.keep,SX.val,SX.ev,bin,binI,isShift,asNat,cellsAt,hw,hw1,hneg,hlt,hwa,hna,g,hz,hil,hl,g2]
theorem exit1 {ti:Nat} {h:Heap} {a:IV} {acc n:Nat}:evC (callL prog opn) opn loopL (catBody1 ti) (f1 a acc n n,h)=some (.exit 0,([(0,.val a),(3,.val (.int .i64 acc)),(9,.val a),(10,.val (.int .i64 n)),(11,.val (.int .i64 n)),(12,.val (.bool false))],h)):=by
 simp[catBody1,f1,evC,evIts,evIt,evOp,wanted,putO,lptrFree,Fr.get,Fr.put,Fr.keep,SX.val,SX.ev,bin,binI,isShift]
def f2 (r a:IV) (n i:Nat):Fr:=[(6,.val r),(25,.val a),(26,.val (.int .i64 n)),(27,.val (.int .i64 i))]
theorem body2 {h h':Heap} {a iv r r':IV} {n i:Nat} (hi:i<n) (hn:n≤2^59) (el:El h a i iv) (hA:append h 1 1 r iv=some (r',h')):
 evC (callL prog opn) opn loopL catBody2 (f2 r a n i,h)=some (.normal,(f2 r' a n (i+1),h')):=by
 have hw1:IntKind.i64.wrap ((i:Int)+1)=((i+1:Nat):Int):=by rw[show (i:Int)+1=((i+1:Nat):Int) by omega];exact wrapN (by omega)
 have hlt:(i:Int)<n:=by omega
 cases el with
 |ro e g=>
  subst e
  simp[catBody2,f2,evC,evIts,evIt,evOp,wanted,putO,lptrFree,Fr.get,Fr.put,Fr.keep,SX.val,SX.ev,bin,binI,isShift,asNat,cellsAt,hw1,hlt,g,hA]
 |sl e g hz hil hl g2=>
  subst e
  simp[catBody2,f2,evC,evIts,evIt,evOp,wanted,putO,lptrFree,Fr.get,Fr.put,Fr.keep,SX.val,SX.ev,bin,binI,isShift,asNat,cellsAt,hw1,hlt,g,hz,hil,hl,g2,hA]
theorem exit2 {h:Heap} {r a:IV} {n:Nat}:evC (callL prog opn) opn loopL catBody2 (f2 r a n n,h)=some (.exit 2,([(6,.val r),(25,.val a),(26,.val (.int .i64 n)),(27,.val (.int .i64 n)),(28,.val (.bool false))],h)):=by
 simp[catBody2,f2,evC,evIts,evIt,evOp,wanted,putO,lptrFree,Fr.get,Fr.put,Fr.keep,SX.val,SX.ev,bin,binI,isShift]
theorem loop1 {ti:Nat} {h:Heap} {a:IV} {lens:List Nat} (hn:lens.length≤2^59) (hel:∀(j m:Nat),lens[j]? = some m→∃iv,El h a j iv∧lenOf iv=some m∧∀s,iv≠.str s):
 ∀(k i acc:Nat),i+k=lens.length→acc+(lens.drop i).sum≤2^59→loopL (evC (callL prog opn) opn loopL (catBody1 ti)) (f1 a acc lens.length i,h) =
  some (.exit 0,([(0,.val a),(3,.val (.int .i64 ((acc+(lens.drop i).sum:Nat):Int))),(9,.val a),(10,.val (.int .i64 lens.length)),(11,.val (.int .i64 lens.length)),(12,.val (.bool false))],h))
 |0,i,acc,e,_=>by
  have:i=lens.length:=by omega
  subst this
  rw[loopL_eq,exit1];simp
 |k+1,i,acc,e,hs=>by
  obtain⟨m,hm⟩:∃m,lens[i]? = some m:=⟨_,List.getElem?_eq_getElem (by omega)⟩
  obtain⟨iv,el,hL,hstr⟩:=hel i m hm
  have hd:lens.drop i=m::lens.drop (i+1):=by
   obtain⟨hl,rfl⟩:=List.getElem?_eq_some_iff.1 hm
   exact List.drop_eq_getElem_cons hl
  rw[hd,List.sum_cons]at hs ⊢
  rw[loopL_eq,body1 (by omega) hn (by omega) el hL hstr]
  simp only[Option.bind_some]
  rw[loop1 hn hel k (i+1) (acc+m) (by omega) (by omega),Nat.add_assoc]
def HExt (h h':Heap):Prop:=h'=h∨∃k,h'=h++[some k]
theorem hget_ext {h h':Heap} {b tot:Nat} {k:Blk} (e:HExt h h') (g:hget h b tot=some k):hget h' b tot=some k:=by
 rcases e with rfl|⟨k',rfl⟩
 ·exact g
 ·obtain⟨h1,h2⟩:=hget_iff.1 g
  exact hget_iff.2 ⟨by rw[List.getElem?_append_left (List.getElem?_eq_some_iff.1 h1).1];exact h1,h2⟩
theorem El.ext {h h':Heap} (e:HExt h h') {a iv:IV} {i:Nat} (x:El h a i iv):El h' a i iv:=by
 cases x with
 |ro e1 g=>exact .ro e1 g
 |sl e1 g hz hi hl g2=>exact .sl e1 (hget_ext e g) hz hi hl g2
theorem elems_ext {h h':Heap} (e:HExt h h') {iv:IV} {es:List (List IV)} (x:elems h 1 iv=some es):elems h' 1 iv=some es:=by
 cases iv<;>simp only[elems]at x ⊢<;>try exact x
 obtain⟨k,h1,h2⟩:=bind_some'.1 x
 rw[hget_ext e h1];exact h2
def CatSt (h:Heap) (tot:Nat) (acc:List (List IV)) (r:IV) (h2:Heap):Prop:=
 (tot=0∧acc=[]∧r = .nils∧h2=h)∨(0<tot∧acc.length≤tot∧r = .sl h.length tot 0 acc.length tot∧h2=h++[some ⟨1,acc++List.replicate (tot-acc.length) [.int .u8 0]⟩])
theorem CatSt.ext {h:Heap} {tot:Nat} {acc:List (List IV)} {r:IV} {h2:Heap} (c:CatSt h tot acc r h2):HExt h h2:=by
 rcases c with ⟨_,_,_,e⟩|⟨_,_,_,e⟩
 ·exact .inl e
 ·exact .inr ⟨_,e⟩
theorem catStep {h:Heap} {tot:Nat} {acc new:List (List IV)} {r iv:IV} {h2:Heap} (c:CatSt h tot acc r h2) (he:elems h2 1 iv=some new) (hl:acc.length+new.length≤tot):
 ∃r' h2',append h2 1 1 r iv=some (r',h2')∧CatSt h tot (acc++new) r' h2':=by
 rcases c with ⟨rfl,rfl,rfl,rfl⟩|⟨h0,hle,rfl,rfl⟩
 ·have:new=[]:=List.length_eq_zero_iff.1 (by simpa using hl)
  subst this
  exact⟨.nils,h2,by simp[append,he],.inl ⟨rfl,rfl,rfl,rfl⟩⟩
 ·have hg:hget (h++[some ⟨1,acc++List.replicate (tot-acc.length) [.int .u8 0]⟩]) h.length tot=some ⟨1,acc++List.replicate (tot-acc.length) [.int .u8 0]⟩:=hget_iff.2 ⟨by simp,by simp;omega⟩
  by_cases hnew:new=[]
  ·subst hnew
   exact⟨.sl h.length tot 0 acc.length tot,_,by simp only[append,he,hg,Option.bind_some];rw[if_neg (by omega),if_pos ⟨by trivial,hle,by omega⟩,if_pos trivial],.inr ⟨h0,by simpa using hle,by simp,by simp⟩⟩
  ·refine⟨.sl h.length tot 0 (acc.length+new.length) tot,_,by simp only[append,he,hg,Option.bind_some];rw[if_neg (by omega),if_pos ⟨by trivial,hle,by omega⟩,if_neg hnew,if_pos hl],.inr ⟨h0,by simpa using hl,by simp,?_⟩⟩
   simp only[List.set_append_right _ _ (Nat.le_refl _),Nat.sub_self,List.set_cons_zero,List.length_append,Nat.zero_add]
   have e1:(acc++List.replicate (tot-acc.length) ([.int .u8 0]:List IV)).take acc.length=acc:=by simp
   have e2:(acc++List.replicate (tot-acc.length) ([.int .u8 0]:List IV)).drop (acc.length+new.length)=List.replicate (tot-(acc.length+new.length)) [.int .u8 0]:=by
    rw[List.drop_append,List.drop_eq_nil_of_le (by omega),List.nil_append,List.drop_replicate];congr 1;omega
   rw[e1,e2]
theorem loop2 {h:Heap} {a:IV} {els:List (List (List IV))} {tot:Nat} (hn:els.length≤2^59) (hel:∀(j:Nat) e,els[j]? = some e→∃iv,El h a j iv∧elems h 1 iv=some e):
 ∀(k i:Nat) (acc:List (List IV)) (r:IV) (h2:Heap),i+k=els.length→CatSt h tot acc r h2→acc.length+(els.drop i).flatten.length=tot→∃r' h2',
  loopL (evC (callL prog opn) opn loopL catBody2) (f2 r a els.length i,h2)=some (.exit 2,([(6,.val r'),(25,.val a),(26,.val (.int .i64 els.length)),(27,.val (.int .i64 els.length)),(28,.val (.bool false))],h2'))∧CatSt h tot (acc++(els.drop i).flatten) r' h2'
 |0,i,acc,r,h2,e,c,_=>by
  have:i=els.length:=by omega
  subst this
  exact⟨r,h2,by rw[loopL_eq,exit2];simp,by simpa using c⟩
 |k+1,i,acc,r,h2,e,c,hs=>by
  obtain⟨m,hm⟩:∃m,els[i]? = some m:=⟨_,List.getElem?_eq_getElem (by omega)⟩
  obtain⟨iv,el,he⟩:=hel i m hm
  have hd:els.drop i=m::els.drop (i+1):=by
   obtain⟨hl,rfl⟩:=List.getElem?_eq_some_iff.1 hm
   exact List.drop_eq_getElem_cons hl
  rw[hd,List.flatten_cons,List.length_append]at hs
  obtain⟨r1,h1,e1,c1⟩:=catStep c (elems_ext c.ext he) (by omega)
  obtain⟨r',h',e2,c2⟩:=loop2 hn hel k (i+1) (acc++m) r1 h1 (by omega) c1 (by rw[List.length_append];omega)
  refine⟨r',h',?_,by rw[hd,List.flatten_cons,←List.append_assoc];exact c2⟩
  rw[loopL_eq,body2 (by omega) hn (el.ext c.ext) e1]
  exact e2
theorem cat_ev {f g ti:Nat} (hf:prog f=some (catFn ti g)) (hg:prog g=some (growFn ti)) (ho:opn g=true) {h:Heap} {a:IV} {els:List (List (List IV))} (hn:els.length≤2^59) (hlen:lenOf a=some els.length) (hs:∀s,a≠.str s)
 (hel:∀(j:Nat) e,els[j]? = some e→∃iv,El h a j iv∧elems h 1 iv=some e∧lenOf iv=some e.length∧∀s,iv≠.str s) (hm:els.flatten.length*2≤most):
 ∃r h',callL prog opn f [a] h=some (r,h')∧CatSt h els.flatten.length els.flatten r h':=by
 have hb:els.flatten.length≤2^59:=by unfold most at hm;omega
 have hsum:(els.map List.length).sum=els.flatten.length:=by rw[List.length_flatten]
 have l1:=loop1 (prog:=prog) (opn:=opn) (ti:=ti) (h:=h) (a:=a) (lens:=els.map List.length) (by simpa using hn) (fun j m hj=>by
  rw[List.getElem?_map]at hj
  obtain⟨e,he,rfl⟩:=Option.map_eq_some_iff.1 hj
  obtain⟨iv,x1,_,x3,x4⟩:=hel j e he
  exact⟨iv,x1,x3,x4⟩) els.length 0 0 (by simp) (by rw[List.drop_zero,hsum];omega)
 obtain⟨r0,h0,gr,c0⟩:∃r0 h0,callL prog opn g [.nils,.int .i64 els.flatten.length] h=some (r0,h0)∧CatSt h els.flatten.length [] r0 h0:=by
  by_cases h0:els.flatten.length=0
  ·rw[h0];exact⟨_,_,grow0 hg h,.inl ⟨rfl,rfl,rfl,rfl⟩⟩
  ·exact⟨_,_,growS hg h (by omega) hm,.inr ⟨by omega,by simp,by simp,by simp⟩⟩
 obtain⟨r,h',l2,c2⟩:=loop2 (prog:=prog) (opn:=opn) hn (fun j e he=>by obtain⟨iv,x1,x2,_⟩:=hel j e he;exact⟨iv,x1,x2⟩) els.length 0 [] r0 h0 (by simp) c0 (by simp)
 refine⟨r,h',?_,by simpa using c2⟩
 simp only[List.drop_zero,hsum,List.length_map,f1,Nat.zero_add,Int.natCast_zero]at l1
 simp only[f2,Int.natCast_zero]at l2
 have hlo:∀(d:Option Nat) (t:Nat) (s:St),(SX.t t).val s.1=some a→evOp (callL prog opn) opn d (.len false (.t t)) s=some (.val (.int .i64 els.length),s):=fun d t s ht=>by
  simp only[evOp,ht,Option.bind_some]
  cases a<;>first|(simp[lenOf]at hlen;done)|exact(hs _ rfl).elim|(have:=Option.some.inj hlen;rw[←this];rfl)
 rw[callL_eq,hf]
 simp[catFn,start,initFr,evC,evIts,evIt,evOp,wanted,putO,lptrFree,Fr.get,Fr.put,Fr.keep,SX.val,SX.ev,finish,results1,mapO,tupled,evArgs,l1,l2,doCall,ho,gr,hlen,-List.length_flatten]
end
theorem rowsOf {p:Bool} {Z:Nat→Prop} {h:Heap} {t:Ty} {l:List t.den} {a:IV} (w:TR p Z h true (.lst t) true l [a]):
 ∃es,lenOf a=some es.length∧(∀s,a≠.str s)∧elems h t.n a=some es∧All2 (TR p Z h true t true) l es∧(t.n=1→∀(j:Nat) iv,es[j]? = some [iv]→El h a j iv):=by
 simp only[TR]at w
 obtain⟨iv,e,w⟩:=w
 injection e with e _;subst e
 rcases w with ⟨rfl,rfl|rfl⟩|⟨bo,es,rfl,_,w⟩|⟨_,b,tot,off,len,cap,k,rfl,_,hg,hk,⟨h1,h2⟩,w⟩
 ·exact⟨[],rfl,by simp,rfl,trivial,by simp⟩
 ·exact⟨[],rfl,by simp,rfl,trivial,by simp⟩
 ·exact⟨es,rfl,by simp,by simp only[elems];rw[if_pos (TR.sz w)],w.imp fun _ _ h=>TR.flags (by simp) (by simp) h,fun _ j iv g=>.ro rfl g⟩
 ·have hl:k.es.length=tot:=(hget_iff.1 hg).2
  refine⟨(k.es.drop off).take len,by simp only[lenOf,List.length_take,List.length_drop];congr 1;omega,by simp,by simp only[elems,hg,Option.bind_some];rw[if_pos ⟨hk,h1⟩],w,fun hn j iv g=>?_⟩
  rw[List.getElem?_take]at g
  split at g
  ·rename_i hj
   rw[List.getElem?_drop]at g
   exact .sl rfl hg (by rw[hk,hn]) hj h1 g
  ·cases g
theorem colsOf {p:Bool} {Z:Nat→Prop} {h:Heap}:∀{l:List (List Int)} {es:List (List IV)},All2 (TR p Z h true (.lst (.int .u8)) true) l es→
 ∃els:List (List (List IV)),els.length=l.length∧All2 (TR p Z h true (.int .u8) true) l.flatten els.flatten∧∀(j:Nat) e,els[j]? = some e→∃iv,es[j]? = some [iv]∧elems h 1 iv=some e∧lenOf iv=some e.length∧∀s,iv≠.str s
 |[],[],_=>⟨[],rfl,trivial,by simp⟩
 |[],_::_,w=>w.elim
 |_::_,[],w=>w.elim
 |x::l,c::es,w=>by
  obtain⟨els,h1,h2,h3⟩:=colsOf w.2
  have w1:=w.1
  have hc:∃iv,c=[iv]:=by
   have:=w1
   simp only[TR]at this
   obtain⟨iv,e,_⟩:=this
   exact⟨iv,e⟩
  obtain⟨iv,rfl⟩:=hc
  obtain⟨cs,q1,q2,q3,q4,_⟩:=rowsOf w1
  refine⟨cs::els,by simp[h1],?_,fun j e he=>?_⟩
  ·rw[List.flatten_cons,List.flatten_cons];exact q4.app h2
  ·cases j with
   |zero=>simp at he;subst he;exact⟨iv,rfl,q3,q1,q2⟩
   |succ j=>exact h3 j e (by simpa using he)
def catF (x:List (List Int)):Option (List Int):=cut (decide (x.length≤most)) (cut (decide (x.flatten.length*2≤most)) (some x.flatten))
def catOC:OC:=⟨1,[(0,.val true true ⟨false,.lst (.lst (.int .u8))⟩)],[(resB,.own (.int .u8))],[],1,catF⟩
theorem catOC_ok {prog:Nat→Option SFn} {opn:Nat→Bool} {f g ti:Nat} (hf:prog f=some (catFn ti g)) (hg:prog g=some (growFn ti)) (ho:opn g=true):OCtOk prog opn f catOC:=by
 intro p Z h rt ivs x L O hlen sf sep rti y hy
 obtain⟨s,⟨⟩⟩:=x
 simp only[catOC,SF,KF]at sf
 obtain⟨L1,L2,O1,O2,rfl,rfl,⟨⟨iv0,h0,w0⟩,rfl,rfl⟩,rfl,rfl⟩:=sf
 have hl1:ivs.length=1:=hlen
 match ivs,hl1 with
 |[a],_=>
 simp[initFr,Fr.get]at h0
 subst h0
 simp only[TV]at w0
 rw[if_neg (by simp)]at w0
 have e1:(pack (a:=catOC.inn.hs) (s,()))=s:=rfl
 rw[e1]at hy
 replace w0:TR p Z h true (.lst (.lst (.int .u8))) true s [a]:=w0
 unfold catOC catF at hy
 simp only at hy
 obtain⟨k1,hy⟩:=cut_some.1 hy
 obtain⟨k2,hy⟩:=cut_some.1 hy
 injection hy with hy
 replace k1:=of_decide_eq_true k1
 replace k2:=of_decide_eq_true k2
 obtain⟨es,a1,a2,a3,a4,a5⟩:=rowsOf w0
 obtain⟨els,b1,b2,b3⟩:=colsOf a4
 have hlf:els.flatten.length=(List.flatten s).length:=b2.len
 have hle:es.length=els.length:=by rw[b1];exact a4.len
 obtain⟨r,h',ev,st⟩:=cat_ev hf hg ho (h:=h) (a:=a) (els:=els) (by rw[b1];unfold most at k1;omega) (by rw[←hle];exact a1) a2 (fun j e he=>by
  obtain⟨iv,q1,q2,q3,q4⟩:=b3 j e he
  exact⟨iv,a5 rfl j iv q1,q2,q3,q4⟩) (by rw[hlf];exact k2)
 subst hy
 rcases st with ⟨t0,t1,rfl,rfl⟩|⟨t0,t1,rfl,rfl⟩
 ·have hs0:List.flatten s=[]:=List.length_eq_zero_iff.1 (by rw[←hlf];exact t0)
  refine⟨[.nils],h',Z,[(none,[])],[],[(resB,.val .nils)],ev,rfl,⟨[(none,[])],[],[],[],rfl,rfl,⟨.nils,none,by simp[Fr.get],⟨.inl rfl,hs0⟩,rfl,rfl⟩,rfl,rfl⟩,?_,by simp,?_,⟨fun _ h=>h,fun _ _=>rfl⟩⟩
  ·intro j r hr
   cases j with
   |zero=>simp at hr;subst hr;simp[Fr.get]
   |succ j=>simp at hr
  ·exact⟨by simp[foot],by simp[foot],by simp,by simp,by simp,⟨Nat.le_refl _,fun _ _ _=>rfl⟩,fun x hx=>⟨sep.zb x hx,.inl hx⟩,fun x hx=>hx⟩
 ·have zle:ZLe Z Z h (h++[some ⟨1,els.flatten++List.replicate (els.flatten.length-els.flatten.length) [.int .u8 0]⟩]):=⟨fun _ h=>h,fun b hb=>List.getElem?_append_left (sep.zb b hb)⟩
  refine⟨[.sl h.length els.flatten.length 0 els.flatten.length els.flatten.length],_,Z,[(some h.length,[])],[],[(resB,.val (.sl h.length els.flatten.length 0 els.flatten.length els.flatten.length))],ev,rfl,⟨[(some h.length,[])],[],[],[],rfl,rfl,⟨.sl h.length els.flatten.length 0 els.flatten.length els.flatten.length,some h.length,by simp[Fr.get],⟨?_,els.flatten,by simp;rfl,b2.imp fun _ _ g=>TR.mono zle g⟩,rfl,rfl⟩,rfl,rfl⟩,?_,by simp,?_,zle⟩
  ·show OwnR (some h.length) (List.flatten s).length _
   rw[←hlf];rfl
  ·intro j r hr
   cases j with
   |zero=>simp at hr;subst hr;simp[Fr.get]
   |succ j=>simp at hr
  ·refine⟨fun x hx=>?_,by simp[foot],by simp,by simp,by simp,⟨by simp,fun x hx _=>List.getElem?_append_left hx⟩,fun x hx=>⟨by have:=sep.zb x hx;simp;omega,.inl hx⟩,fun x hx=>hx⟩
   simp[foot]at hx
   subst hx
   exact⟨.inr (Nat.le_refl _),fun hz=>absurd (sep.zb _ hz) (by omega),by simp⟩
end Go.Ideal
