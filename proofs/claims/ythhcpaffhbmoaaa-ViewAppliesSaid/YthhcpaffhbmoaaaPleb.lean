/- Cells are read by both sides. -/
import Derived.Test.YthhcpaffhbmoaaaPlea
set_option linter.unusedVariables false
set_option linter.unusedSimpArgs false
namespace Go.Ideal.Seat
open Go.Ideal.Plain
theorem Rd.then_assoc {α β γ:Type} (m:Rd α) (f:α→Rd β) (g:β→Rd γ):(m.then f).then g=m.then fun x=>(f x).then g:=by
 funext l
 unfold Rd.then
 cases m l<;>rfl
theorem Rd.then_pure {α β:Type} (x:α) (f:α→Rd β):(Rd.then (fun l=>.ok (x,l)) f)=f x:=by
 funext l
 rfl
theorem rNums_err:∀{n:Nat} {l:List Int} {e:Int},rNums n l = .error e→e≠0
 |0,l,e,h=>by simp[rNums]at h
 |n+1,l,e,h=>by
  simp only[rNums]at h
  cases hn:rNum l with
  |error e'=>
   rw[Rd.then_error hn]at h
   injection h with h;subst h
   exact(pNum_error hn).1
  |ok p=>
   rw[Rd.then_ok hn]at h
   cases hm:rNums n p.2 with
   |error e'=>rw[Rd.then_error hm]at h;injection h with h;subst h;exact rNums_err hm
   |ok q=>rw[Rd.then_ok hm]at h;cases h
theorem cellsLoop {S X Y P:Type} (n:Nat) (mk:P→List Cell→S) (rest:P→List Int) (good:P→Prop) (ok:List Cell→P→Y) (er:Y→Int→Prop) {F:S→Option (S⊕X)} {post:X→Option Y}
 (hstep:∀p out,good p→out.length<n→(∀e,rNums 5 (rest p) = .error e→∃x y,F (mk p out)=some (.inr x)∧post x=some y∧er y e)∧
   ∀q,rNums 5 (rest p) = .ok q→(badRun (n-out.length) out.getLast? (runOf q.1)=true→∃x y,F (mk p out)=some (.inr x)∧post x=some y∧er y 6)∧
    (badRun (n-out.length) out.getLast? (runOf q.1)=false→∃p',good p'∧rest p'=q.2∧F (mk p out)=some (.inl (mk p' (out++List.replicate (runOf q.1).1 (runOf q.1).2)))))
 (hend:∀p out,good p→out.length=n→∃x,F (mk p out)=some (.inr x)∧post x=some (ok out p)):
 ∀(f:Nat) p out,good p→out.length≤n→n-out.length≤f→
  (∀q,rCells f (n-out.length) out.getLast? (rest p) = .ok q→∃p',good p'∧rest p'=q.2∧(iterL F (mk p out)).bind post=some (ok (out++q.1) p'))∧
  (∀e,rCells f (n-out.length) out.getLast? (rest p) = .error e→e≠0∧∃y,(iterL F (mk p out)).bind post=some y∧er y e):=by
 intro f
 induction f with
 |zero=>
  intro p out hg hl hf
  have h0:n-out.length=0:=by omega
  obtain⟨x,e1,e2⟩:=hend p out hg (by omega)
  rw[h0]
  refine⟨fun q hq=>?_,fun e he=>?_⟩
  ·simp only[rCells,Except.ok.injEq]at hq
   subst hq
   exact⟨p,hg,rfl,by rw[iterL_inr e1,List.append_nil];exact e2⟩
  ·simp[rCells]at he
 |succ f ih=>
  intro p out hg hl hf
  by_cases hz:out.length=n
  ·have h0:n-out.length=0:=by omega
   obtain⟨x,e1,e2⟩:=hend p out hg (by omega)
   rw[h0]
   refine⟨fun q hq=>?_,fun e he=>?_⟩
   ·simp only[rCells,Except.ok.injEq]at hq
    subst hq
    exact⟨p,hg,rfl,by rw[iterL_inr e1,List.append_nil];exact e2⟩
   ·simp[rCells]at he
  ·obtain⟨m,hm⟩:∃m,n-out.length=m+1:=⟨n-out.length-1,by omega⟩
   obtain⟨s1,s2⟩:=hstep p out hg (by omega)
   rw[hm]at s2 ⊢
   simp only[rCells]
   cases hn:rNums 5 (rest p) with
   |error e'=>
    obtain⟨x,y,e1,e2,e3⟩:=s1 e' hn
    refine⟨fun q hq=>?_,fun e he=>?_⟩
    ·rw[Rd.then_error hn]at hq;cases hq
    ·rw[Rd.then_error hn]at he;injection he with he;subst he
     exact⟨rNums_err hn,y,by rw[iterL_inr e1];exact e2,e3⟩
   |ok v=>
    obtain⟨t1,t2⟩:=s2 v hn
    cases hb:badRun (m+1) out.getLast? (runOf v.1) with
    |true=>
     obtain⟨x,y,e1,e2,e3⟩:=t1 hb
     refine⟨fun q hq=>?_,fun e he=>?_⟩
     ·rw[Rd.then_ok hn,hb,if_pos rfl]at hq;cases hq
     ·rw[Rd.then_ok hn,hb,if_pos rfl]at he;injection he with he;subst he
      exact⟨by decide,y,by rw[iterL_inr e1];exact e2,e3⟩
    |false=>
     obtain⟨p',g1,g2,g3⟩:=t2 hb
     have hb':=hb
     unfold badRun at hb'
     simp only[Bool.or_eq_false_iff,beq_eq_false_iff_ne,decide_eq_false_iff_not]at hb'
     obtain⟨⟨⟨b1,b2⟩,_⟩,_⟩:=hb'
     have hlast:(out++List.replicate (runOf v.1).1 (runOf v.1).2).getLast? = some (runOf v.1).2:=by
      obtain⟨k,hk⟩:∃k,(runOf v.1).1=k+1:=⟨(runOf v.1).1-1,by omega⟩
      rw[hk,List.replicate_succ',←List.append_assoc,List.getLast?_concat]
     have hlen:n-(out++List.replicate (runOf v.1).1 (runOf v.1).2).length=m+1-(runOf v.1).1:=by rw[List.length_append,List.length_replicate];omega
     obtain⟨i1,i2⟩:=ih p' (out++List.replicate (runOf v.1).1 (runOf v.1).2) g1 (by rw[List.length_append,List.length_replicate];omega) (by rw[hlen];omega)
     rw[hlast,hlen,g2]at i1 i2
     rw[iterL_inl g3]
     refine⟨fun q hq=>?_,fun e he=>?_⟩
     ·rw[Rd.then_ok hn,hb]at hq
      simp only[Bool.false_eq_true,if_false]at hq
      obtain⟨q',h1,h2⟩:=Rd.then_eq_ok hq
      injection h2 with h2
      obtain⟨p'',j1,j2,j3⟩:=i1 q' h1
      refine⟨p'',j1,by rw[←h2];exact j2,?_⟩
      rw[j3,←h2,List.append_assoc]
     ·rw[Rd.then_ok hn,hb]at he
      simp only[Bool.false_eq_true,if_false]at he
      refine i2 e ?_
      cases hm':rCells f (m+1-(runOf v.1).1) (some (runOf v.1).2) v.2 with
      |ok q'=>rw[Rd.then_ok hm']at he;cases he
      |error e'=>rw[Rd.then_error hm']at he;injection he with he;rw[he]
theorem reps_eq (n:Nat) (c:Cell) (out:List Cell):upTo (fun _ (a:List Cell)=>a++[c]) n out=out++List.replicate n c:=by
 induction n with
 |zero=>simp[upTo]
 |succ n ih=>simp only[upTo,ih,List.replicate_succ',List.append_assoc]
def runI (vs:List Int):Int×Cell:=(vs.getD 0 0,IntKind.wrap .i32 (if vs.getD 1 0>1114111 then 0 else vs.getD 1 0),vs.getD 2 0,vs.getD 3 0,vs.getD 4 0)
theorem runs_run:Runs O_cell_run ((rNums 5).then fun vs l=>.ok (runI vs,l)):=by
 have h:=runs_then runs_num rNum_short (fun v0=>runs_then runs_num rNum_short (fun v1=>runs_then runs_num rNum_short (fun v2=>runs_then runs_num rNum_short (fun v3=>runs_map (f:=fun v4=>runI [v0,v1,v2,v3,v4])
  (O':=fun s=>(O_codec_Reader_Number s).bind fun r17=>((bif (decide (v1>1114111)) then (some 0) else (some v1)).bind fun v18=>(some (r17.1,(v0,((IntKind.wrap .i32 (v18)),(v2,(v3,r17.2)))))))) runs_num (fun s=>by
    by_cases h:v1>1114111<;>simp[h,runI])))))
 have e:(rNum.then fun v0=>rNum.then fun v1=>rNum.then fun v2=>rNum.then fun v3=>rNum.then fun v4 l=>.ok (runI [v0,v1,v2,v3,v4],l))=(rNums 5).then fun vs l=>.ok (runI vs,l):=by
  simp only[rNums,Rd.then_assoc,Rd.then_pure]
 rw[e]at h
 exact h
theorem runI_of {vs:List Int} (h:∀x∈vs,0≤x∧x≤72057594037927935):(runI vs).1=((runOf vs).1:Int)∧(runI vs).2=(runOf vs).2∧0≤vs.getD 0 0∧vs.getD 0 0≤72057594037927935∧0≤vs.getD 1 0∧vs.getD 1 0≤72057594037927935:=by
 have hb:∀i,0≤vs.getD i 0∧vs.getD i 0≤72057594037927935:=fun i=>by
  rw[List.getD_eq_getElem?_getD]
  cases he:vs[i]? with
  |none=>simp
  |some y=>exact h y (List.mem_of_getElem? he)
 have h0:=hb 0
 have h1:=hb 1
 refine⟨?_,?_,h0.1,h0.2,h1.1,h1.2⟩
 ·simp only[runI,runOf,Int.toNat_of_nonneg h0.1]
 ·simp only[runI,runOf]
  have:IntKind.wrap .i32 (if vs.getD 1 0>1114111 then 0 else vs.getD 1 0)=(if vs.getD 1 0>1114111 then 0 else vs.getD 1 0):=by
   split
   ·rfl
   ·exact Go.IntWalk.i32_in _ (by omega)
  rw[this]
theorem lastEq (out:List Cell) (c:Cell) (hl:out.length<2^60):(bif ((decide ((((out.length):Nat):Int)>0))==true) then (bif decide (0≤(IntKind.wrap .i64 ((((out.length):Nat):Int)-1))) then (bif decide (((IntKind.wrap .i64 ((((out.length):Nat):Int)-1))).toNat<out.length) then ((out[((IntKind.wrap .i64 ((((out.length):Nat):Int)-1))).toNat]?).bind fun e127=>(some ((e127.1==c.1)&&((e127.2.1==c.2.1)&&((e127.2.2.1==c.2.2.1)&&((e127.2.2.2==c.2.2.2)&&true)))))) else none) else none) else (some false))=some (decide (out.getLast? = some c)):=by
 cases hq:out.getLast? with
 |none=>
  have:out=[]:=by simpa using hq
  subst this
  simp
 |some x=>
  have hxm:=List.mem_of_getLast? hq
  have hpos:0<out.length:=List.length_pos_of_mem hxm
  have hpos':((out.length:Nat):Int)>0:=by omega
  have hg:out[out.length-1]? = some x:=by rw[←hq,List.getLast?_eq_getElem?]
  have hi1:IntKind.i64.wrap ((out.length:Int)-1)=((out.length-1:Nat):Int):=by rw[w64 (by omega) (by omega)];omega
  have hlt:out.length-1<out.length:=by omega
  simp only[hpos',decide_true,beq_self_eq_true,cond_true,hi1,Int.natCast_nonneg,Int.toNat_natCast,hlt,hg,Option.bind_some,cellEq,Option.some.injEq]
theorem badEq (n:Nat) (out:List Cell) (x:Rn) (ho:out.length<n) (hn:n≤2^40):(bif ((((x.1:Nat):Int)==0)==false) then (bif ((decide (((x.1:Nat):Int)>(((n-out.length:Nat)):Int)))==false) then (bif ((!cellOk x.2)==false) then some (decide (out.getLast? = some x.2)) else (some true)) else (some true)) else (some true))=some (badRun (n-out.length) out.getLast? x):=by
 unfold badRun
 have e1:(((x.1:Nat):Int)==0)=(x.1==0):=by rw[Bool.eq_iff_iff];simp
 have e2:decide (((x.1:Nat):Int)>(((n-out.length:Nat)):Int))=decide (n-out.length<x.1):=by rw[decide_eq_decide];omega
 rw[e1,e2]
 cases (x.1==0)<;>cases decide (n-out.length<x.1)<;>cases cellOk x.2<;>simp
theorem nums_bound {n:Nat} {l:List Int} {p:List Int×List Int} (hl:bytesIn l) (h:rNums n l = .ok p):∀x∈p.1,0≤x∧x≤72057594037927935:=by
 obtain⟨ns,e1,e2,e3,e4⟩:=rNums_back (vs:=p.1) (r:=p.2) hl h
 intro x hx
 rw[e2]at hx
 obtain⟨m,hm,rfl⟩:=List.mem_map.1 hx
 have:=e3 m hm
 omega
theorem nums_right {n:Nat} {l:List Int} {p:List Int×List Int} (hl:bytesIn l) (h:rNums n l = .ok p):bytesIn p.2∧p.1.length=n:=by
 obtain⟨ns,e1,e2,e3,e4⟩:=rNums_back (vs:=p.1) (r:=p.2) hl h
 rw[e4]at hl
 exact⟨bytesIn_right hl,by rw[e2,List.length_map,e1]⟩
theorem cellRead_eq (b:List Int) (hb:bytesIn b) (n:Nat) (hn:n≤2^36):
 (∀q,rCells n n none b = .ok q→bytesIn q.2∧O_cell_Read ((b,0),(n:Int))=some ((q.2,0),q.1))∧(∀e,rCells n n none b = .error e→e≠0∧∃b',O_cell_Read ((b,0),(n:Int))=some ((b',e),[])):=by
 have key:(∀q,rCells n (n-([]:List Cell).length) ([]:List Cell).getLast? (id b) = .ok q→∃p',bytesIn p'∧id p'=q.2∧O_cell_Read ((b,0),(n:Int))=some ((p',0),[]++q.1))∧
  (∀e,rCells n (n-([]:List Cell).length) ([]:List Cell).getLast? (id b) = .error e→e≠0∧∃y,O_cell_Read ((b,0),(n:Int))=some y∧∃b',y=((b',e),[])):=by
  unfold O_cell_Read
  refine cellsLoop n (fun(p:List Int) (out:List Cell)=>(p,(0:Int),out)) id bytesIn (fun out p=>((p,0),out)) (fun y e=>∃b',y=((b',e),[])) (fun p out hp ho=>⟨fun e he=>?_,fun q hq=>⟨fun hbad=>?_,fun hbad=>?_⟩⟩) (fun p out hp ho=>?_) n b [] hb (by simp) (by simp)
  ·have ho':(out.length:Int)<(n:Int):=by omega
   have he:rNums 5 p = .error e:=he
   obtain⟨k1,b',v,k2⟩:=runs_run.error p hp e (by rw[Rd.then_error he])
   have he':(e != 0)=true:=by simpa using k1
   simp only[ho',decide_true,cond_true,k2,Option.bind_some,O_codec_Reader_Err,he']
   exact⟨_,_,rfl,rfl,_,rfl⟩
  all_goals
   first
   |have ho':(out.length:Int)<(n:Int):=by omega
    have hq:rNums 5 p = .ok q:=hq
    have hr:=runs_run.ok p hp (runI q.1,q.2) (by rw[Rd.then_ok hq])
    obtain⟨i1,i2,i3⟩:=runI_of (nums_bound hp hq)
    have hw:IntKind.wrap .i64 ((n:Int)-(out.length:Int))=((n-out.length:Nat):Int):=by rw[w64 (by omega) (by omega)];omega
    have hbe:=badEq n out (runOf q.1) ho (by omega)
    have hle:=lastEq out (runOf q.1).2 (by omega)
    simp only[ho',decide_true,cond_true,hr,Option.bind_some,O_codec_Reader_Err,bne_self_eq_false,cond_false,i1,i2,hw,cellRight_eq,hle,hbe,hbad]
   |skip
  ·simp only[fail_ok,Option.bind_some]
   exact⟨_,_,rfl,rfl,_,rfl⟩
  ·refine⟨q.2,(nums_right hp hq).1,rfl,?_⟩
   have hb':=hbad
   unfold badRun at hb'
   simp only[Bool.or_eq_false_iff,beq_eq_false_iff_ne,decide_eq_false_iff_not]at hb'
   obtain⟨⟨⟨b1,b2⟩,_⟩,_⟩:=hb'
   rw[countLoop (runOf q.1).1 (fun(a:List Cell) i=>(a,i)) (fun _ a=>a++[(runOf q.1).2]) (fun i a=>a.length=out.length+i) (fin:=fun a=>(a,((runOf q.1).1:Int),false)) (by simp) (fun a i hi hv=>?_) (fun a hv=>by simp)]
   ·simp only[reps_eq,Option.bind_some]
   ·have hi':(i:Int)<((runOf q.1).1:Int):=by omega
    have hm:(a.length+1)*(32+1)≤most:=by unfold most;omega
    simp only[hi',decide_true,cond_true,List.length_cons,List.length_nil,Nat.zero_add,hm,wsucc (show i<2^62 by omega)]
    exact⟨trivial,by rw[List.length_append];simp;omega⟩
  ·have ho':¬(out.length:Int)<(n:Int):=by omega
   simp only[ho',decide_false,cond_false]
   exact⟨_,rfl,rfl⟩
 obtain⟨k1,k2⟩:=key
 simp only[List.length_nil,Nat.sub_zero,List.getLast?_nil,id_eq]at k1 k2
 refine⟨fun q hq=>?_,fun e he=>?_⟩
 ·obtain⟨p',g1,g2,g3⟩:=k1 q hq
  subst g2
  exact⟨g1,g3⟩
 ·obtain⟨h0,y,h1,b',rfl⟩:=k2 e he
  exact⟨h0,b',h1⟩
theorem five_eq (b:List Int) (hb:bytesIn b) (k:Nat) (hk:k≤b.length):
 (∀p,rNums 5 (b.drop k) = .ok p→∃j:Nat,j≤b.length∧p.2=b.drop j∧(iterL (S:=(Int)×(List (Int))×Int) (X:=((List ((Int)×(Int)×(Int)×Int))×(Int)×Int)⊕((Int)×(List (Int))×(Int)×Bool)) (fun s298=>(bif (decide (s298.2.2<5)) then ((F_batonref06_ReadNumber (b,s298.1)).bind fun r299=>(bif decide (0≤s298.2.2) then (bif decide ((s298.2.2).toNat<5) then ((s298.2.1[(s298.2.2).toNat]?).bind fun e300=>(bif (r299.2.2 != 0) then (some (Sum.inr (Sum.inl (([]:List ((Int)×(Int)×(Int)×Int)),r299.2)))) else (some (Sum.inl (r299.2.1,((s298.2.1.set (s298.2.2).toNat r299.1),(IntKind.wrap .i64 (s298.2.2+1)))))))) else none) else none)) else (some (Sum.inr (Sum.inr (s298.1,(s298.2.1,(s298.2.2,(decide (s298.2.2<5)))))))))) ((k:Int),(([0,0,0,0,0]:List (Int)),0)))=some (Sum.inr ((j:Int),p.1,5,false)))∧
 (∀e,rNums 5 (b.drop k) = .error e→e≠0∧∃a,(iterL (S:=(Int)×(List (Int))×Int) (X:=((List ((Int)×(Int)×(Int)×Int))×(Int)×Int)⊕((Int)×(List (Int))×(Int)×Bool)) (fun s298=>(bif (decide (s298.2.2<5)) then ((F_batonref06_ReadNumber (b,s298.1)).bind fun r299=>(bif decide (0≤s298.2.2) then (bif decide ((s298.2.2).toNat<5) then ((s298.2.1[(s298.2.2).toNat]?).bind fun e300=>(bif (r299.2.2 != 0) then (some (Sum.inr (Sum.inl (([]:List ((Int)×(Int)×(Int)×Int)),r299.2)))) else (some (Sum.inl (r299.2.1,((s298.2.1.set (s298.2.2).toNat r299.1),(IntKind.wrap .i64 (s298.2.2+1)))))))) else none) else none)) else (some (Sum.inr (Sum.inr (s298.1,(s298.2.1,(s298.2.2,(decide (s298.2.2<5)))))))))) ((k:Int),(([0,0,0,0,0]:List (Int)),0)))=some (Sum.inl ([],a,e))):=by
 have key:=numsLoop b hb 5 (fun k out i=>(k,out++List.replicate (5-out.length) 0,i)) (fun vs j=>(Sum.inr (j,vs,5,false):(List Cell×Int×Int)⊕(Int×List Int×Int×Bool))) (fun a e=>Sum.inl ([],a,e))
  (F:=(fun s298=>(bif (decide (s298.2.2<5)) then ((F_batonref06_ReadNumber (b,s298.1)).bind fun r299=>(bif decide (0≤s298.2.2) then (bif decide ((s298.2.2).toNat<5) then ((s298.2.1[(s298.2.2).toNat]?).bind fun e300=>(bif (r299.2.2 != 0) then (some (Sum.inr (Sum.inl (([]:List ((Int)×(Int)×(Int)×Int)),r299.2)))) else (some (Sum.inl (r299.2.1,((s298.2.1.set (s298.2.2).toNat r299.1),(IntKind.wrap .i64 (s298.2.2+1)))))))) else none) else none)) else (some (Sum.inr (Sum.inr (s298.1,(s298.2.1,(s298.2.2,(decide (s298.2.2<5))))))))))) (post:=some) (fun k i out hi ho=>⟨fun v j h=>?_,fun v j e he h=>?_⟩) (fun k out ho=>?_) k hk
 ·simp only[Option.bind_fun_some]at key
  exact key
 ·have hi':(i:Int)<5:=by omega
  have h5:i<5:=hi
  have hg:(out++List.replicate (5-out.length) (0:Int))[i]? = some 0:=by
   rw[List.getElem?_append_right (by omega),List.getElem?_replicate,if_pos (by omega)]
  have hset:(out++List.replicate (5-out.length) (0:Int)).set i v=(out++[v])++List.replicate (5-(out++[v]).length) 0:=by
   rw[List.set_append_right _ _ (by omega),show i-out.length=0 by omega]
   obtain⟨m,hm⟩:∃m,5-out.length=m+1:=⟨5-out.length-1,by omega⟩
   rw[hm,List.replicate_succ,List.set_cons_zero,List.length_append,List.length_cons,List.length_nil,show 5-(out.length+(0+1))=m by omega]
   simp
  simp only[hi',decide_true,cond_true,h,Option.bind_some,Int.natCast_nonneg,Int.toNat_natCast,h5,hg,bne_self_eq_false,cond_false,hset,wsucc (show i<2^62 by omega)]
 ·have hi':(i:Int)<5:=by omega
  have h5:i<5:=hi
  have he':(e != 0)=true:=by simpa using he
  have hg:(out++List.replicate (5-out.length) (0:Int))[i]? = some 0:=by
   rw[List.getElem?_append_right (by omega),List.getElem?_replicate,if_pos (by omega)]
  simp only[hi',decide_true,cond_true,h,Option.bind_some,Int.natCast_nonneg,Int.toNat_natCast,h5,hg,he']
  exact⟨_,_,rfl,rfl⟩
 ·have h5:¬((5:Int)<5):=by decide
  have:out++List.replicate (5-out.length) (0:Int)=out:=by rw[ho];simp
  simp only[Int.cast_ofNat_Int,h5,decide_false,cond_false,this]
  exact⟨_,rfl,rfl⟩
theorem refCellRead_eq (b:List Int) (hb:bytesIn b) (k:Nat) (hk:k≤b.length) (n:Nat) (hn:n≤2^36):
 (∀q,rCells n n none (b.drop k) = .ok q→∃j:Nat,j≤b.length∧b.drop j=q.2∧F_batonref09_Read (b,(k:Int),(n:Int))=some (q.1,(j:Int),0))∧(∀e,rCells n n none (b.drop k) = .error e→e≠0∧∃a,F_batonref09_Read (b,(k:Int),(n:Int))=some ([],a,e)):=by
 have key:(∀q,rCells n (n-([]:List Cell).length) ([]:List Cell).getLast? (b.drop k) = .ok q→∃j:Nat,j≤b.length∧b.drop j=q.2∧F_batonref09_Read (b,(k:Int),(n:Int))=some ([]++q.1,(j:Int),0))∧
  (∀e,rCells n (n-([]:List Cell).length) ([]:List Cell).getLast? (b.drop k) = .error e→e≠0∧∃y,F_batonref09_Read (b,(k:Int),(n:Int))=some y∧∃a,y=([],a,e)):=by
  unfold F_batonref09_Read
  refine cellsLoop n (fun(j:Nat) (out:List Cell)=>((j:Int),out)) (fun j=>b.drop j) (fun j=>j≤b.length) (fun out j=>(out,(j:Int),0)) (fun y e=>∃a,y=([],a,e)) (fun j out hj ho=>⟨fun e he=>?_,fun q hq=>⟨fun hbad=>?_,fun hbad=>?_⟩⟩) (fun j out hj ho=>?_) n k [] hk (by simp) (by simp)
  ·have ho':(out.length:Int)<(n:Int):=by omega
   obtain⟨k1,a,k2⟩:=(five_eq b hb j hj).2 e he
   simp only[ho',decide_true,cond_true,k2,Option.bind_some]
   exact⟨_,_,rfl,rfl,_,rfl⟩
  all_goals
   first
   |have ho':(out.length:Int)<(n:Int):=by omega
    obtain⟨j',hj',g1,g2⟩:=(five_eq b hb j hj).1 q hq
    have hlen:=(nums_right (bytesIn_drop hb j) hq).2
    have hbd:=nums_bound (bytesIn_drop hb j) hq
    obtain⟨i1,i2,i3,i4,i5,i6⟩:=runI_of hbd
    have hv:∀i,i<5→q.1[i]? = some (q.1.getD i 0):=fun i hi=>by
     rw[List.getElem?_eq_getElem (by omega),List.getD_eq_getElem?_getD,List.getElem?_eq_getElem (by omega)];rfl
    have hw:IntKind.wrap .i64 ((n:Int)-(out.length:Int))=((n-out.length:Nat):Int):=by rw[w64 (by omega) (by omega)];omega
    simp only[ho',decide_true,cond_true,g2,Option.bind_some,hv 0 (by omega),hv 1 (by omega),hv 2 (by omega),hv 3 (by omega),hv 4 (by omega),hw]
   |skip
  ·by_cases hbig:q.1.getD 1 0>1114111
   ·simp only[hbig,decide_true,Bool.true_beq,Bool.not_true,cond_false,Option.bind_some,cond_true]
    exact⟨_,_,rfl,rfl,_,rfl⟩
   ·have hN:q.1.getD 0 0=((runOf q.1).1:Int):=i1
    have hcell:(IntKind.wrap .i32 (q.1.getD 1 0),q.1.getD 2 0,q.1.getD 3 0,q.1.getD 4 0)=(runOf q.1).2:=by
     rw[←i2];simp only[runI,if_neg hbig]
    have key1:(bif ((q.1.getD 0 0==0)==false) then some (decide (q.1.getD 0 0>((n-out.length:Nat):Int))) else some true)=some ((runOf q.1).1==0||decide (n-out.length<(runOf q.1).1)):=by
     rw[hN]
     have e1:((((runOf q.1).1:Nat):Int)==0)=((runOf q.1).1==0):=by rw[Bool.eq_iff_iff];simp
     have e2:decide ((((runOf q.1).1:Nat):Int)>(((n-out.length:Nat)):Int))=decide (n-out.length<(runOf q.1).1):=by rw[decide_eq_decide];omega
     rw[e1,e2]
     cases ((runOf q.1).1==0)<;>rfl
    have hle:=lastEq out (IntKind.wrap .i32 (q.1.getD 1 0),q.1.getD 2 0,q.1.getD 3 0,q.1.getD 4 0) (by omega)
    have hrc:F_batonref09_Right (runOf q.1).2=some (cellOk (runOf q.1).2):=by
     rw[←hcell]
     exact refCell_eq _ (by simp only;rw[Go.IntWalk.i32_in _ (by omega)];omega)
    simp only at hle
    simp only[hbig,decide_false,beq_self_eq_true,cond_true,key1,Option.bind_some,hrc,hle,hcell]
    unfold badRun at hbad
    cases h1:((runOf q.1).1==0||decide (n-out.length<(runOf q.1).1)) with
    |true=>simp only[cond_true];exact⟨_,_,rfl,rfl,_,rfl⟩
    |false=>
     rw[h1]at hbad
     simp only[Bool.false_or]at hbad
     have key2:(bif ((!cellOk (runOf q.1).2)==false) then some (decide (out.getLast? = some (runOf q.1).2)) else some true)=some true:=by
      cases hk:cellOk (runOf q.1).2 with
      |false=>rfl
      |true=>rw[hk]at hbad;simpa using hbad
     simp only[cond_false,key2,Option.bind_some,cond_true]
     exact⟨_,_,rfl,rfl,_,rfl⟩
  ·have hb':=hbad
   unfold badRun at hb'
   simp only[Bool.or_eq_false_iff,beq_eq_false_iff_ne,decide_eq_false_iff_not,Bool.not_eq_false']at hb'
   obtain⟨⟨⟨b1,b2⟩,b3⟩,b4⟩:=hb'
   have hbig:¬q.1.getD 1 0>1114111:=fun h=>by
    have:=cell_nat b3
    simp only[runOf,if_pos h]at this
    omega
   have hN:q.1.getD 0 0=((runOf q.1).1:Int):=i1
   have hcell:(IntKind.wrap .i32 (q.1.getD 1 0),q.1.getD 2 0,q.1.getD 3 0,q.1.getD 4 0)=(runOf q.1).2:=by
    rw[←i2];simp only[runI,if_neg hbig]
   have key1:(bif ((q.1.getD 0 0==0)==false) then some (decide (q.1.getD 0 0>((n-out.length:Nat):Int))) else some true)=some ((runOf q.1).1==0||decide (n-out.length<(runOf q.1).1)):=by
    rw[hN]
    have e1:((((runOf q.1).1:Nat):Int)==0)=((runOf q.1).1==0):=by rw[Bool.eq_iff_iff];simp
    have e2:decide ((((runOf q.1).1:Nat):Int)>(((n-out.length:Nat)):Int))=decide (n-out.length<(runOf q.1).1):=by rw[decide_eq_decide];omega
    rw[e1,e2]
    cases ((runOf q.1).1==0)<;>rfl
   have hle:=lastEq out (IntKind.wrap .i32 (q.1.getD 1 0),q.1.getD 2 0,q.1.getD 3 0,q.1.getD 4 0) (by omega)
   have hrc:F_batonref09_Right (runOf q.1).2=some (cellOk (runOf q.1).2):=by
    rw[←hcell]
    exact refCell_eq _ (by simp only;rw[Go.IntWalk.i32_in _ (by omega)];omega)
   simp only at hle
   simp only[hbig,decide_false,beq_self_eq_true,cond_true,key1,Option.bind_some,hrc,hle,hcell]
   have h1:((runOf q.1).1==0||decide (n-out.length<(runOf q.1).1))=false:=by simp;omega
   simp only[h1,cond_false,b3,Bool.not_true,beq_self_eq_true,cond_true,b4,decide_false,Option.bind_some,hN]
   refine⟨j',hj',g1.symm,?_⟩
   rw[countLoop (runOf q.1).1 (fun(a:List Cell) i=>(a,i)) (fun _ a=>a++[(runOf q.1).2]) (fun i a=>a.length=out.length+i) (fin:=fun a=>(a,((runOf q.1).1:Int),false)) (by simp) (fun a i hi hv=>?_) (fun a hv=>by simp)]
   ·simp only[reps_eq,Option.bind_some]
   ·have hi':(i:Int)<((runOf q.1).1:Int):=by omega
    have hm:(a.length+1)*(32+1)≤most:=by unfold most;omega
    simp only[hi',decide_true,cond_true,List.length_cons,List.length_nil,Nat.zero_add,hm,wsucc (show i<2^62 by omega)]
    exact⟨trivial,by rw[List.length_append];simp;omega⟩
  ·have ho':¬(out.length:Int)<(n:Int):=by omega
   simp only[ho',decide_false,cond_false]
   exact⟨_,rfl,rfl⟩
 obtain⟨k1,k2⟩:=key
 simp only[List.length_nil,Nat.sub_zero,List.getLast?_nil,List.nil_append]at k1 k2
 refine⟨k1,fun e he=>?_⟩
 obtain⟨h0,y,h1,a,rfl⟩:=k2 e he
 exact⟨h0,a,h1⟩
end Go.Ideal.Seat
set_option linter.unusedVariables false
set_option linter.unusedSimpArgs false
namespace Go.Ideal.Seat
open Go.Ideal.Plain
def badLen (vs:List Int):Bool:=decide (vs.getD 2 0=0∨vs.getD 2 0>132)
def rSpan:Rd Sp:=(rNums 3).then fun vs=>if badLen vs=true then fun _=>.error 6 else (rCells (vs.getD 2 0).toNat (vs.getD 2 0).toNat none).then fun cs l=>.ok ((vs.getD 0 0,vs.getD 1 0,cs),l)
def rSpans:Nat→Rd (List Sp)
 |0=>fun l=>.ok ([],l)
 |n+1=>rSpan.then fun s=>(rSpans n).then fun r l=>.ok (s::r,l)
def rTail:Rd (Int×Int×Bool×List Int×Int):=rNum.then fun a=>rNum.then fun b=>rBool.then fun h=>(rText 64).then fun t=>rNum.then fun n l=>.ok ((a,b,h,t,n),l)
def toB (l:List Int):List UInt8:=l.map fun n=>UInt8.ofNat n.toNat
def rAll:Rd (Int×Int×List Sp×Int×Int×Bool×List Int×Int):=(rNums 3).then fun vs=>(rSpans (vs.getD 2 0).toNat).then fun sp=>rTail.then fun x l=>.ok ((vs.getD 0 0,vs.getD 1 0,sp,x),l)
def asD (x:Int×Int×List Sp×Int×Int×Bool×List Int×Int):Dlt:=(x.1,x.2.1,x.2.2.1,x.2.2.2.1,x.2.2.2.2.1,x.2.2.2.2.2.1,toB x.2.2.2.2.2.2.1,x.2.2.2.2.2.2.2)
noncomputable def rDelta (b:List Int):Except Int Dlt:=match rAll b with
 |.error e=>.error e
 |.ok p=>if p.2=[] then if deltaOk (asD p.1)=true then .ok (asD p.1) else .error 6 else .error 5
def encSpan (s:Sp):List Int:=numB s.1.toNat++(numB s.2.1.toNat++(numB s.2.2.length++encCells s.2.2))
def encDelta (d:Dlt):List Int:=numB d.1.toNat++(numB d.2.1.toNat++(numB d.2.2.1.length++(d.2.2.1.flatMap encSpan++(numB d.2.2.2.1.toNat++(numB d.2.2.2.2.1.toNat++((if d.2.2.2.2.2.1=true then 1 else 0)::(numB d.2.2.2.2.2.2.1.length++(ints d.2.2.2.2.2.2.1++numB d.2.2.2.2.2.2.2.toNat))))))))
def spanFine (s:Sp):Prop:=0≤s.1∧s.1≤72057594037927935∧0≤s.2.1∧s.2.1≤72057594037927935∧1≤s.2.2.length∧s.2.2.length≤132∧∀c∈s.2.2,cellOk c=true
theorem rSpan_back {l r:List Int} {s:Sp} (hl:bytesIn l) (h:rSpan l = .ok (s,r)):spanFine s∧l=encSpan s++r:=by
 unfold rSpan at h
 obtain⟨p,h1,h2⟩:=Rd.then_eq_ok h
 obtain⟨ns,e1,e2,e3,e4⟩:=rNums_back (vs:=p.1) (r:=p.2) hl h1
 match ns,e1 with
 |[n0,n1,n2],_=>
  rw[e2]at h2
  split at h2
  ·cases h2
  ·rename_i hb
   unfold badLen at hb
   simp only[List.map_cons,List.map_nil,List.getD_cons_zero,List.getD_cons_succ,decide_eq_true_eq,Int.toNat_natCast]at hb h2
   obtain⟨q,h3,h4⟩:=Rd.then_eq_ok h2
   rw[e4]at hl
   obtain⟨x,g1,g2,g3,g4⟩:=rCells_back _ _ none p.2 q.2 q.1 (bytesIn_right hl) h3
   simp only[Except.ok.injEq,Prod.mk.injEq]at h4
   obtain⟨rfl,rfl⟩:=h4
   have k0:=e3 n0 (by simp)
   have k1:=e3 n1 (by simp)
   have hx:=(runs_len g1).2
   refine⟨⟨by simp,by simp only;omega,by simp,by simp only;omega,by simp only;omega,by simp only;omega,fun c hc=>?_⟩,?_⟩
   ·rw[g2]at hc
    unfold expand at hc
    obtain⟨y,hy,hcy⟩:=List.mem_flatMap.1 hc
    rw[List.eq_of_mem_replicate hcy]
    exact(hx y hy).2
   ·rw[e4,g4]
    unfold encSpan encCells
    have hxl:(expand x).length=n2:=by rw[←g2];exact g3
    simp only[Int.toNat_natCast,g2,runsK_expand x none g1,hxl]
    simp
theorem encSpan_pos (s:Sp):1≤(encSpan s).length:=by
 have:=numB_pos s.1.toNat
 unfold encSpan
 rw[List.length_append]
 omega
theorem rSpans_back:∀{n:Nat} {l r:List Int} {sp:List Sp},bytesIn l→rSpans n l = .ok (sp,r)→(∀s∈sp,spanFine s)∧sp.length=n∧l=sp.flatMap encSpan++r
 |0,l,r,sp,hl,h=>by
  simp only[rSpans,Except.ok.injEq,Prod.mk.injEq]at h
  obtain⟨rfl,rfl⟩:=h
  simp
 |n+1,l,r,sp,hl,h=>by
  simp only[rSpans]at h
  obtain⟨p,h1,h2⟩:=Rd.then_eq_ok h
  obtain⟨q,h3,h4⟩:=Rd.then_eq_ok h2
  obtain⟨f1,f2⟩:=rSpan_back (s:=p.1) (r:=p.2) hl h1
  rw[f2]at hl
  obtain⟨i1,i2,i3⟩:=rSpans_back (sp:=q.1) (r:=q.2) (bytesIn_right hl) h3
  simp only[Except.ok.injEq,Prod.mk.injEq]at h4
  obtain⟨rfl,rfl⟩:=h4
  refine⟨fun s hs=>?_,by simp[i2],by rw[f2,i3];simp⟩
  rcases List.mem_cons.1 hs with rfl|hs
  ·exact f1
  ·exact i1 s hs
theorem ints_toB {l:List Int} (h:∀x∈l,0≤x∧x<256):ints (toB l)=l:=by
 unfold ints toB
 rw[List.map_map]
 conv=>rhs;rw[←List.map_id l]
 refine List.map_congr_left fun a ha=>?_
 have:=h a ha
 simp only[Function.comp_apply,UInt8.toNat_ofNat',id_eq]
 omega
def tailFine (x:Int×Int×Bool×List Int×Int):Prop:=0≤x.1∧x.1≤72057594037927935∧0≤x.2.1∧x.2.1≤72057594037927935∧x.2.2.2.1.length≤64∧0≤x.2.2.2.2∧x.2.2.2.2≤72057594037927935
def encTail (x:Int×Int×Bool×List Int×Int):List Int:=numB x.1.toNat++(numB x.2.1.toNat++((if x.2.2.1=true then 1 else 0)::(numB x.2.2.2.1.length++(x.2.2.2.1++numB x.2.2.2.2.toNat))))
theorem rBool_back {l r:List Int} {h:Bool} (hl:bytesIn l) (e:rBool l = .ok (h,r)):l=(if h=true then 1 else 0)::r:=by
 unfold rBool at e
 cases l with
 |nil=>cases e
 |cons x l=>
  simp only at e
  split at e
  ·cases e
  ·rename_i hx
   have:=hl.1 x (by simp)
   simp only[Except.ok.injEq,Prod.mk.injEq]at e
   obtain⟨rfl,rfl⟩:=e
   by_cases h1:x=1
   ·simp[h1]
   ·have:x=0:=by omega
    simp[this]
theorem rText_back {l r t:List Int} {m:Nat} (hl:bytesIn l) (e:rText m l = .ok (t,r)):t.length≤m∧l=numB t.length++(t++r):=by
 unfold rText at e
 obtain⟨p,h1,h2⟩:=Rd.then_eq_ok e
 obtain⟨n,e1,e2,e3⟩:=rNum_back (v:=p.1) (r:=p.2) hl h1
 rw[e1]at h2
 split at h2
 ·cases h2
 ·split at h2
  ·cases h2
  ·rename_i c1 c2
   simp only[Except.ok.injEq,Prod.mk.injEq,Int.toNat_natCast]at h2
   obtain⟨rfl,rfl⟩:=h2
   have hlen:(p.2.take n).length=n:=by rw[List.length_take];omega
   rw[hlen,List.take_append_drop]
   exact⟨by omega,e3⟩
theorem rTail_back {l r:List Int} {x:Int×Int×Bool×List Int×Int} (hl:bytesIn l) (e:rTail l = .ok (x,r)):tailFine x∧l=encTail x++r∧∀y∈x.2.2.2.1,0≤y∧y<256:=by
 unfold rTail at e
 obtain⟨p1,a1,e⟩:=Rd.then_eq_ok e
 obtain⟨p2,a2,e⟩:=Rd.then_eq_ok e
 obtain⟨p3,a3,e⟩:=Rd.then_eq_ok e
 obtain⟨p4,a4,e⟩:=Rd.then_eq_ok e
 obtain⟨p5,a5,e⟩:=Rd.then_eq_ok e
 obtain⟨n1,b1,c1,d1⟩:=rNum_back (v:=p1.1) (r:=p1.2) hl a1
 have hl1:=bytesIn_right (d1▸hl)
 obtain⟨n2,b2,c2,d2⟩:=rNum_back (v:=p2.1) (r:=p2.2) hl1 a2
 have hl2:=bytesIn_right (d2▸hl1)
 have d3:=rBool_back (h:=p3.1) (r:=p3.2) hl2 a3
 have hl3:=(bytesIn_cons (d3▸hl2)).1
 obtain⟨c4,d4⟩:=rText_back (t:=p4.1) (r:=p4.2) hl3 a4
 have hl4:=bytesIn_right (d4▸hl3)
 obtain⟨n5,b5,c5,d5⟩:=rNum_back (v:=p5.1) (r:=p5.2) (bytesIn_right hl4) a5
 simp only[Except.ok.injEq,Prod.mk.injEq]at e
 obtain⟨rfl,rfl⟩:=e
 refine⟨⟨by simp only;omega,by simp only;omega,by simp only;omega,by simp only;omega,c4,by simp only;omega,by simp only;omega⟩,?_,fun y hy=>hl4.1 y (by simp[hy])⟩
 unfold encTail
 rw[d1,d2,d3,d4,d5,b1,b2,b5]
 simp
theorem delta_fine {d:Dlt} (h:deltaOk d=true):(0≤d.1∧d.1≤60∧0≤d.2.1∧d.2.1≤132)∧(∀s∈d.2.2.1,spanFine s)∧0≤d.2.2.2.1∧d.2.2.2.1≤60∧0≤d.2.2.2.2.1∧d.2.2.2.2.1≤132∧d.2.2.2.2.2.2.1.length≤64∧0≤d.2.2.2.2.2.2.2∧d.2.2.2.2.2.2.2≤1073741824:=by
 unfold deltaOk at h
 simp only[Bool.and_eq_true]at h
 obtain⟨⟨hs,hi⟩,hsp⟩:=h
 have hw:=spansOk_within hsp
 have hs':=hs
 unfold sizeOk at hs'
 unfold sideOk titleOk at hi
 simp only[Bool.and_eq_true,decide_eq_true_eq]at hs' hi
 refine⟨by omega,fun s hm=>?_,by omega,by omega,by omega,by omega,hi.1.2.1.1,by omega,by omega⟩
 have:=hw s hm
 unfold within inRow at this
 simp only[Bool.and_eq_true,decide_eq_true_eq,List.all_eq_true]at this
 exact⟨by omega,by omega,by omega,by omega,by omega,by omega,this.2⟩
theorem rDelta_back {b:List Int} {d:Dlt} (hb:bytesIn b) (h:rDelta b = .ok d):b=encDelta d∧deltaOk d=true:=by
 unfold rDelta at h
 split at h
 ·cases h
 ·rename_i p hp
  split at h
  ·rename_i hr
   split at h
   ·rename_i hok
    injection h with h;subst h
    refine⟨?_,hok⟩
    unfold rAll at hp
    obtain⟨q,a1,e⟩:=Rd.then_eq_ok hp
    obtain⟨sp,a2,e⟩:=Rd.then_eq_ok e
    obtain⟨x,a3,e⟩:=Rd.then_eq_ok e
    obtain⟨ns,e1,e2,e3,e4⟩:=rNums_back (vs:=q.1) (r:=q.2) hb a1
    have hb1:=bytesIn_right (e4▸hb)
    obtain⟨f1,f2,f3⟩:=rSpans_back (sp:=sp.1) (r:=sp.2) hb1 a2
    have hb2:=bytesIn_right (f3▸hb1)
    obtain⟨g1,g2,g3⟩:=rTail_back (x:=x.1) (r:=x.2) hb2 a3
    simp only[Except.ok.injEq]at e
    subst e
    simp only at hr
    match ns,e1 with
    |[n0,n1,n2],_=>
     rw[e2]at f2
     simp only[List.map_cons,List.map_nil,List.getD_cons_succ,List.getD_cons_zero,Int.toNat_natCast]at f2
     rw[e4,f3,g2,hr,e2]
     unfold encDelta encTail asD
     simp only[List.map_cons,List.map_nil,List.getD_cons_succ,List.getD_cons_zero,Int.toNat_natCast,f2,ints_toB g3]
     have:(toB x.1.2.2.2.1).length=x.1.2.2.2.1.length:=by simp[toB]
     simp[this]
   ·cases h
  ·cases h
end Go.Ideal.Seat
set_option linter.unusedVariables false
set_option linter.unusedSimpArgs false
namespace Go.Ideal.Seat
open Go.Ideal.Plain
theorem nth {n:Nat} {l:List Int} {p:List Int×List Int} (hl:bytesIn l) (h:rNums n l = .ok p):∀i,i<n→p.1[i]? = some (p.1.getD i 0)∧0≤p.1.getD i 0∧p.1.getD i 0≤72057594037927935:=fun i hi=>by
 have hlen:=(nums_right hl h).2
 have hg:p.1[i]? = some p.1[i]:=List.getElem?_eq_getElem (by omega)
 have hd:p.1.getD i 0=p.1[i]:=by rw[List.getD_eq_getElem?_getD,hg];rfl
 rw[hd]
 exact⟨hg,nums_bound hl h _ (List.getElem_mem _)⟩
theorem rSpan_short:Short rSpan:=fun l p hl h=>by
 obtain⟨_,e⟩:=rSpan_back (s:=p.1) (r:=p.2) hl h
 exact⟨_,e,encSpan_pos _⟩
theorem rSpan_err {l:List Int} {e:Int} (hl:bytesIn l) (h:rSpan l = .error e):e≠0:=by
 unfold rSpan at h
 cases hn:rNums 3 l with
 |error e'=>rw[Rd.then_error hn]at h;injection h with h;subst h;exact rNums_err hn
 |ok p=>
  rw[Rd.then_ok hn]at h
  split at h
  ·injection h with h;omega
  ·rename_i hb
   have hp:=(nums_right hl hn).1
   have h2:=nth hl hn 2 (by omega)
   unfold badLen at hb
   simp only[decide_eq_true_eq]at hb
   cases hc:rCells (p.1.getD 2 0).toNat (p.1.getD 2 0).toNat none p.2 with
   |error e'=>
    rw[Rd.then_error hc]at h;injection h with h;subst h
    exact((cellRead_eq p.2 hp _ (by omega)).2 _ hc).1
   |ok q=>rw[Rd.then_ok hc]at h;cases h
noncomputable def spanRest (v0 v1 v2:Int) (s:List Int×Int):Option ((List Int×Int)×Sp):=((((O_codec_Reader_Err s).bind fun r38=>(bif ((r38.2==0)==true) then (bif ((v2==0)==false) then (some (r38.1.1,(r38.1.2,(decide (v2>132))))) else (some (r38.1.1,(r38.1.2,true)))) else (some (r38.1.1,(r38.1.2,false))))).bind fun v39=>(bif v39.2.2 then ((O_codec_Reader_Fail ((v39.1,v39.2.1),6)).bind fun r40=>(some r40)) else (some (v39.1,v39.2.1)))).bind fun v41=>((O_codec_Reader_Err v41).bind fun r42=>(bif (r42.2==0) then ((O_cell_Read (r42.1,v2)).bind fun r43=>(some (r43.1,(v0,(v1,r43.2))))) else (some (r42.1,(v0,(v1,([]:List Cell))))))))
theorem rest_bad (v0 v1 v2:Int) (b:List Int) {e:Int} (he:e≠0):spanRest v0 v1 v2 (b,e)=some ((b,e),(v0,v1,[])):=by
 have h1:(e==0)=false:=by simpa using he
 unfold spanRest O_codec_Reader_Err
 simp only[Option.bind_some,h1,Bool.false_beq,Bool.not_true,cond_false]
theorem span_def (s:List Int×Int):O_delta_span s=(O_codec_Reader_Number s).bind fun r35=>(O_codec_Reader_Number r35.1).bind fun r36=>(O_codec_Reader_Number r36.1).bind fun r37=>spanRest r35.2 r36.2 r37.2 r37.1:=rfl
noncomputable def three (s:List Int×Int):Option ((List Int×Int)×List Int):=(O_codec_Reader_Number s).bind fun r35=>(O_codec_Reader_Number r35.1).bind fun r36=>(O_codec_Reader_Number r36.1).bind fun r37=>some (r37.1,[r35.2,r36.2,r37.2])
theorem runs_three:Runs three (rNums 3):=by
 have h:=runs_then runs_num rNum_short (fun v0=>runs_then runs_num rNum_short (fun v1=>runs_map (f:=fun v2=>[v0,v1,v2]) (O':=fun s=>(O_codec_Reader_Number s).bind fun r37=>some (r37.1,[v0,v1,r37.2])) runs_num (fun s=>rfl)))
 have e:(rNum.then fun v0=>rNum.then fun v1=>rNum.then fun v2 l=>.ok ([v0,v1,v2],l))=rNums 3:=by
  simp only[rNums,Rd.then_assoc,Rd.then_pure]
 rw[e]at h
 exact h
theorem three_some {s:List Int×Int} {y:(List Int×Int)×List Int} (h:three s=some y):∃r1 r2 r3,O_codec_Reader_Number s=some r1∧O_codec_Reader_Number r1.1=some r2∧O_codec_Reader_Number r2.1=some r3∧y=(r3.1,[r1.2,r2.2,r3.2]):=by
 unfold three at h
 obtain⟨r1,h1,h⟩:=bind_some'.1 h
 obtain⟨r2,h2,h⟩:=bind_some'.1 h
 obtain⟨r3,h3,h⟩:=bind_some'.1 h
 injection h with h
 exact⟨r1,r2,r3,h1,h2,h3,h.symm⟩
theorem runs_span:Runs O_delta_span rSpan where
 ok b hb p h:=by
  unfold rSpan at h
  obtain⟨q,h1,h2⟩:=Rd.then_eq_ok h
  obtain⟨r1,r2,r3,e1,e2,e3,e4⟩:=three_some (runs_three.ok b hb q h1)
  simp only[Prod.mk.injEq]at e4
  have n2:=nth hb h1 2 (by omega)
  split at h2
  ·cases h2
  ·rename_i hbad
   unfold badLen at hbad
   simp only[decide_eq_true_eq]at hbad
   obtain⟨q2,h3,h4⟩:=Rd.then_eq_ok h2
   have hq:=(nums_right hb h1).1
   have hc:=((cellRead_eq q.2 hq (q.1.getD 2 0).toNat (by omega)).1 q2 h3).2
   rw[Int.toNat_of_nonneg n2.2.1]at hc
   injection h4 with h4
   rw[span_def]
   simp only[e1,e2,e3,Option.bind_some,←e4.1]
   have g0:r1.2=q.1.getD 0 0:=by rw[e4.2];rfl
   have g1:r2.2=q.1.getD 1 0:=by rw[e4.2];rfl
   have g2:r3.2=q.1.getD 2 0:=by rw[e4.2];rfl
   rw[g0,g1,g2]
   have c1:(q.1.getD 2 0==0)=false:=beq_eq_false_iff_ne.2 (by omega)
   have c2:¬q.1.getD 2 0>132:=by omega
   unfold spanRest O_codec_Reader_Err
   simp only[Option.bind_some,beq_self_eq_true,cond_true,c1,c2,decide_false,cond_false,hc]
   rw[←h4]
 error b hb e h:=by
  refine⟨rSpan_err hb h,?_⟩
  unfold rSpan at h
  cases hn:rNums 3 b with
  |error e'=>
   rw[Rd.then_error hn]at h;injection h with h;subst h
   obtain⟨k1,b',v,k2⟩:=runs_three.error b hb _ hn
   obtain⟨r1,r2,r3,e1,e2,e3,e4⟩:=three_some k2
   simp only[Prod.mk.injEq]at e4
   rw[span_def]
   simp only[e1,e2,e3,Option.bind_some,←e4.1,rest_bad _ _ _ b' k1]
   exact⟨_,_,rfl⟩
  |ok q=>
   rw[Rd.then_ok hn]at h
   obtain⟨r1,r2,r3,e1,e2,e3,e4⟩:=three_some (runs_three.ok b hb q hn)
   simp only[Prod.mk.injEq]at e4
   have n2:=nth hb hn 2 (by omega)
   have hq:=(nums_right hb hn).1
   have g2:r3.2=q.1.getD 2 0:=by rw[e4.2];rfl
   rw[span_def]
   simp only[e1,e2,e3,Option.bind_some,←e4.1,g2]
   split at h
   ·rename_i hbad
    unfold badLen at hbad
    simp only[decide_eq_true_eq]at hbad
    injection h with h
    have key:(bif ((q.1.getD 2 0==0)==false) then (some (q.2,((0:Int),decide (q.1.getD 2 0>132)))) else some (q.2,(0,true)))=some (q.2,(0,true)):=by
     generalize q.1.getD 2 0=v at hbad
     by_cases c1:v=0
     ·simp[c1]
     ·have c1':(v==0)=false:=beq_eq_false_iff_ne.2 c1
      have c2:v>132:=by omega
      simp[c1',c2]
    unfold spanRest O_codec_Reader_Err
    simp only[Option.bind_some,beq_self_eq_true,cond_true,key,fail_ok]
    subst h
    exact⟨_,_,rfl⟩
   ·rename_i hbad
    unfold badLen at hbad
    simp only[decide_eq_true_eq]at hbad
    cases hc:rCells (q.1.getD 2 0).toNat (q.1.getD 2 0).toNat none q.2 with
    |ok q2=>rw[Rd.then_ok hc]at h;cases h
    |error e'=>
     rw[Rd.then_error hc]at h;injection h with h;subst h
     obtain⟨k1,b',k2⟩:=(cellRead_eq q.2 hq _ (by omega)).2 _ hc
     rw[Int.toNat_of_nonneg n2.2.1]at k2
     have c1:(q.1.getD 2 0==0)=false:=beq_eq_false_iff_ne.2 (by omega)
     have c2:¬q.1.getD 2 0>132:=by omega
     unfold spanRest O_codec_Reader_Err
     simp only[Option.bind_some,beq_self_eq_true,cond_true,c1,c2,decide_false,cond_false,k2]
     exact⟨_,_,rfl⟩
 bad b e he:=by
  rw[span_def]
  simp only[rNum_bad b he,Option.bind_some,rest_bad _ _ _ b he]
  exact⟨_,rfl⟩
theorem ref_span (b:List Int) (hb:bytesIn b):RefR b (fun k=>F_batonref18_span (b,k)) rSpan where
 ok k hk p h:=by
  unfold rSpan at h
  obtain⟨q,h1,h2⟩:=Rd.then_eq_ok h
  obtain⟨j,hj,e1,e2⟩:=(ref_nums b hb 3 (by decide) k hk).1 q h1
  simp only[Int.cast_ofNat_Int]at e2
  have n0:=nth (bytesIn_drop hb k) h1 0 (by omega)
  have n1:=nth (bytesIn_drop hb k) h1 1 (by omega)
  have n2:=nth (bytesIn_drop hb k) h1 2 (by omega)
  split at h2
  ·cases h2
  ·rename_i hbad
   unfold badLen at hbad
   simp only[decide_eq_true_eq]at hbad
   obtain⟨q2,h3,h4⟩:=Rd.then_eq_ok h2
   rw[e1]at h3
   obtain⟨j',hj',f1,f2⟩:=(refCellRead_eq b hb j hj (q.1.getD 2 0).toNat (by omega)).1 q2 h3
   rw[Int.toNat_of_nonneg n2.2.1]at f2
   injection h4 with h4
   have c1:(q.1.getD 2 0==0)=false:=beq_eq_false_iff_ne.2 (by omega)
   have c2:¬q.1.getD 2 0>132:=by omega
   refine⟨j',hj',by rw[←h4];exact f1.symm,?_⟩
   unfold F_batonref18_span
   simp only[e2,Option.bind_some,bne_self_eq_false,cond_false,n2.1,c1,beq_self_eq_true,cond_true,c2,decide_false,n0.1,n1.1,f2]
   rw[←h4]
 error k hk e h:=by
  refine⟨rSpan_err (bytesIn_drop hb k) h,?_⟩
  unfold rSpan at h
  cases hn:rNums 3 (b.drop k) with
  |error e'=>
   rw[Rd.then_error hn]at h;injection h with h;subst h
   obtain⟨k1,a,k2⟩:=(ref_nums b hb 3 (by decide) k hk).2 _ hn
   simp only[Int.cast_ofNat_Int]at k2
   have he:(e' != 0)=true:=by simpa using k1
   unfold F_batonref18_span
   simp only[k2,Option.bind_some,he,cond_true]
   exact⟨_,_,rfl⟩
  |ok q=>
   rw[Rd.then_ok hn]at h
   obtain⟨j,hj,e1,e2⟩:=(ref_nums b hb 3 (by decide) k hk).1 q hn
   simp only[Int.cast_ofNat_Int]at e2
   have n0:=nth (bytesIn_drop hb k) hn 0 (by omega)
   have n1:=nth (bytesIn_drop hb k) hn 1 (by omega)
   have n2:=nth (bytesIn_drop hb k) hn 2 (by omega)
   unfold F_batonref18_span
   simp only[e2,Option.bind_some,bne_self_eq_false,cond_false,n2.1]
   split at h
   ·rename_i hbad
    unfold badLen at hbad
    simp only[decide_eq_true_eq]at hbad
    injection h with h
    have key:(bif ((q.1.getD 2 0==0)==false) then some (decide (q.1.getD 2 0>132)) else some true)=some true:=by
     generalize q.1.getD 2 0=v at hbad
     by_cases c1:v=0
     ·simp[c1]
     ·have c1':(v==0)=false:=beq_eq_false_iff_ne.2 c1
      have c2:v>132:=by omega
      simp[c1',c2]
    simp only[key,Option.bind_some,cond_true]
    subst h
    exact⟨_,_,rfl⟩
   ·rename_i hbad
    unfold badLen at hbad
    simp only[decide_eq_true_eq]at hbad
    cases hc:rCells (q.1.getD 2 0).toNat (q.1.getD 2 0).toNat none q.2 with
    |ok q2=>rw[Rd.then_ok hc]at h;cases h
    |error e'=>
     rw[Rd.then_error hc]at h;injection h with h;subst h
     rw[e1]at hc
     obtain⟨k1,a,k2⟩:=(refCellRead_eq b hb j hj _ (by omega)).2 _ hc
     rw[Int.toNat_of_nonneg n2.2.1]at k2
     have c1:(q.1.getD 2 0==0)=false:=beq_eq_false_iff_ne.2 (by omega)
     have c2:¬q.1.getD 2 0>132:=by omega
     simp only[c1,beq_self_eq_true,cond_true,c2,decide_false,Option.bind_some,cond_false,n0.1,n1.1,k2]
     exact⟨_,_,rfl⟩
theorem spansLoop {S X P:Type} (mk:P→Int→List Sp→Nat→S) (fin:P→Int→List Sp→Nat→X) (rest:P→List Int) (good:P→Prop) {F:S→Option (S⊕X)} (hg:∀p,good p→bytesIn (rest p))
 (M:Nat) (hstep:∀p acc m,m<M→good p→acc.length≤2^36→(∀q,rSpan (rest p) = .ok q→∃p',good p'∧rest p'=q.2∧F (mk p 0 acc (m+1))=some (.inl (mk p' 0 (acc++[q.1]) m)))∧
   (∀e,rSpan (rest p) = .error e→∃p' s,F (mk p 0 acc (m+1))=some (.inl (mk p' e (acc++[s]) m))))
 (h0:∀p acc,F (mk p 0 acc 0)=some (.inr (fin p 0 acc 0))) (he:∀p e acc m,e≠0→F (mk p e acc m)=some (.inr (fin p e acc m))):
 ∀m p acc,m≤M→good p→acc.length+(rest p).length≤2^36→(∀q,rSpans m (rest p) = .ok q→∃p',good p'∧rest p'=q.2∧iterL F (mk p 0 acc m)=some (fin p' 0 (acc++q.1) 0))∧
  (∀e,rSpans m (rest p) = .error e→e≠0∧∃p' acc' m',iterL F (mk p 0 acc m)=some (fin p' e acc' m')):=by
 intro m
 induction m with
 |zero=>
  intro p acc hM hp hl
  refine⟨fun q hq=>?_,fun e h=>by simp[rSpans]at h⟩
  simp only[rSpans,Except.ok.injEq]at hq
  subst hq
  exact⟨p,hp,rfl,by rw[iterL_inr (h0 p acc),List.append_nil]⟩
 |succ m ih=>
  intro p acc hM hp hl
  obtain⟨s1,s2⟩:=hstep p acc m (by omega) hp (by omega)
  simp only[rSpans]
  cases hn:rSpan (rest p) with
  |error e'=>
   obtain⟨p',s,e1⟩:=s2 e' hn
   have h0':=rSpan_err (hg p hp) hn
   refine⟨fun q hq=>?_,fun e h=>?_⟩
   ·rw[Rd.then_error hn]at hq;cases hq
   ·rw[Rd.then_error hn]at h;injection h with h;subst h
    exact⟨h0',p',_,m,by rw[iterL_inl e1,iterL_inr (he p' _ _ m h0')]⟩
  |ok v=>
   obtain⟨p',g1,g2,e1⟩:=s1 v hn
   obtain⟨a,f1,f2⟩:=rSpan_short _ v (hg p hp) hn
   have hlen:=congrArg List.length f1
   rw[List.length_append]at hlen
   obtain⟨i1,i2⟩:=ih p' (acc++[v.1]) (by omega) g1 (by rw[g2,List.length_append];simp only[List.length_cons,List.length_nil];omega)
   rw[g2]at i1 i2
   rw[iterL_inl e1]
   refine⟨fun q hq=>?_,fun e h=>?_⟩
   ·rw[Rd.then_ok hn]at hq
    obtain⟨q',h1,h2⟩:=Rd.then_eq_ok hq
    injection h2 with h2
    obtain⟨p'',j1,j2,j3⟩:=i1 q' h1
    refine⟨p'',j1,by rw[←h2];exact j2,?_⟩
    rw[j3,←h2];simp
   ·rw[Rd.then_ok hn]at h
    refine i2 e ?_
    cases hm:rSpans m v.2 with
    |ok q'=>rw[Rd.then_ok hm]at h;cases h
    |error e'=>rw[Rd.then_error hm]at h;injection h with h;rw[h]
noncomputable def tailO (s:List Int×Int):Option ((List Int×Int)×Int×Int×Bool×List Int×Int):=(O_codec_Reader_Number s).bind fun r59=>(O_codec_Reader_Number r59.1).bind fun r60=>(O_codec_Reader_Bool r60.1).bind fun r61=>(O_codec_Reader_Text (r61.1,64)).bind fun r62=>(O_codec_Reader_Number r62.1).bind fun r63=>some (r63.1,(r59.2,r60.2,r61.2,r62.2,r63.2))
theorem rBool_short:Short rBool:=fun l p hl h=>by
 have:=rBool_back (h:=p.1) (r:=p.2) hl h
 exact⟨[if p.1=true then 1 else 0],this,by simp⟩
theorem rText_short (m:Nat):Short (rText m):=fun l p hl h=>by
 obtain⟨_,e⟩:=rText_back (t:=p.1) (r:=p.2) hl h
 exact⟨numB p.1.length++p.1,by rw[List.append_assoc];exact e,by have:=numB_pos p.1.length;simp;omega⟩
theorem runs_tail:Runs tailO rTail:=
 runs_then runs_num rNum_short (fun a=>runs_then runs_num rNum_short (fun b=>runs_then runs_bool rBool_short (fun h=>runs_then (runs_text 64 (by decide)) (rText_short 64) (fun t=>runs_map (f:=fun n=>(a,b,h,t,n)) (O':=fun s=>(O_codec_Reader_Number s).bind fun r=>some (r.1,(a,b,h,t,r.2))) runs_num (fun s=>rfl)))))
theorem tail_some {s:List Int×Int} {y:(List Int×Int)×Int×Int×Bool×List Int×Int} (h:tailO s=some y):∃r1 r2 r3 r4 r5,O_codec_Reader_Number s=some r1∧O_codec_Reader_Number r1.1=some r2∧O_codec_Reader_Bool r2.1=some r3∧O_codec_Reader_Text (r3.1,64)=some r4∧O_codec_Reader_Number r4.1=some r5∧y=(r5.1,(r1.2,r2.2,r3.2,r4.2,r5.2)):=by
 unfold tailO at h
 obtain⟨r1,h1,h⟩:=bind_some'.1 h
 obtain⟨r2,h2,h⟩:=bind_some'.1 h
 obtain⟨r3,h3,h⟩:=bind_some'.1 h
 obtain⟨r4,h4,h⟩:=bind_some'.1 h
 obtain⟨r5,h5,h⟩:=bind_some'.1 h
 injection h with h
 exact⟨r1,r2,r3,r4,r5,h1,h2,h3,h4,h5,h.symm⟩
def zeroD:Dlt:=(0,0,[],0,0,false,[],0)
def readRes {α:Type} (z:α) (f:Dlt→α):Except Int Dlt→α×Int
 |.ok d=>(f d,0)
 |.error e=>(z,e)
theorem span_len {s:Sp} (h:spanFine s):s.2.2.length≤132:=h.2.2.2.2.2.1
abbrev SR:=List Int×Int×Int×Int×List Sp×Int×Int×Bool×List UInt8×Int×Int
abbrev XR:=List Int×Int×Int×Int×List Sp×Int×Int×Bool×List UInt8×Int×Int×Bool
noncomputable def spansF:SR→Option (SR⊕XR):=fun s54=>((bif ((decide (s54.2.2.2.2.2.2.2.2.2.2>0))==true) then ((O_codec_Reader_Err (s54.1,s54.2.1)).bind fun r55=>(some (r55.1.1,(r55.1.2,(r55.2==0))))) else (some (s54.1,(s54.2.1,false)))).bind fun v56=>(bif v56.2.2 then ((O_delta_span (v56.1,v56.2.1)).bind fun r57=>(bif decide ((s54.2.2.2.2.1.length+([r57.2]:List ((Int)×(Int)×List ((Int)×(Int)×(Int)×Int))).length)*(40+1)≤most) then (some (Sum.inl (r57.1.1,(r57.1.2,(s54.2.2.1,(s54.2.2.2.1,((s54.2.2.2.2.1++([r57.2]:List ((Int)×(Int)×List ((Int)×(Int)×(Int)×Int)))),(s54.2.2.2.2.2.1,(s54.2.2.2.2.2.2.1,(s54.2.2.2.2.2.2.2.1,(s54.2.2.2.2.2.2.2.2.1,(s54.2.2.2.2.2.2.2.2.2.1,(IntKind.wrap .i64 (s54.2.2.2.2.2.2.2.2.2.2-1)))))))))))))) else none)) else (some (Sum.inr (v56.1,(v56.2.1,(s54.2.2.1,(s54.2.2.2.1,(s54.2.2.2.2.1,(s54.2.2.2.2.2.1,(s54.2.2.2.2.2.2.1,(s54.2.2.2.2.2.2.2.1,(s54.2.2.2.2.2.2.2.2.1,(s54.2.2.2.2.2.2.2.2.2.1,(s54.2.2.2.2.2.2.2.2.2.2,v56.2.2)))))))))))))))
theorem spansF_exit (p:List Int) {e:Int} (v0 v1:Int) (acc:List Sp) (m:Int) (he:e≠0):spansF (p,e,v0,v1,acc,0,0,false,[],0,m)=some (.inr (p,e,v0,v1,acc,0,0,false,[],0,m,false)):=by
 have h1:(e==0)=false:=by simpa using he
 unfold spansF
 simp only[O_codec_Reader_Err,Option.bind_some,h1]
 cases decide (m>0)<;>rfl
theorem spansF_run (v0 v1:Int) (m:Nat) (p:List Int) (hm:m≤72057594037927935) (hp:bytesIn p):
 (∀q,rSpans m p = .ok q→bytesIn q.2∧iterL spansF (p,0,v0,v1,[],0,0,false,[],0,(m:Int))=some (q.2,0,v0,v1,q.1,0,0,false,[],0,0,false))∧
 (∀e,rSpans m p = .error e→e≠0∧∃p' acc' m',iterL spansF (p,0,v0,v1,[],0,0,false,[],0,(m:Int))=some (p',e,v0,v1,acc',0,0,false,[],0,m',false)):=by
 have hl:=hp.2
 have key:=spansLoop (S:=SR) (X:=XR) (P:=List Int) (fun p e acc m=>(p,e,v0,v1,acc,0,0,false,[],0,(m:Int))) (fun p e acc m=>(p,e,v0,v1,acc,0,0,false,[],0,(m:Int),false)) id bytesIn (F:=spansF) (fun p hp=>hp) 72057594037927935
  (fun p acc m hm hp hal=>⟨fun q hq=>?_,fun e he=>?_⟩) (fun p acc=>?_) (fun p e acc m he=>spansF_exit p v0 v1 acc m he) m p [] hm hp (by simpa using hl)
 ·obtain⟨k1,k2⟩:=key
  refine⟨fun q hq=>?_,fun e he=>?_⟩
  ·obtain⟨p',g1,g2,g3⟩:=k1 q hq
   have g2:p'=q.2:=g2
   subst g2
   exact⟨g1,g3⟩
  ·obtain⟨h0,p',acc',m',h1⟩:=k2 e he
   exact⟨h0,p',acc',m',h1⟩
 ·have hq:rSpan p = .ok q:=hq
  have ho:=runs_span.ok p hp q hq
  obtain⟨_,hl⟩:=rSpan_back (s:=q.1) (r:=q.2) hp hq
  have hm1:(((m+1:Nat):Int)>0):=by omega
  have hmm:(acc.length+1)*(40+1)≤most:=by unfold most;omega
  have hw:IntKind.wrap .i64 (((m+1:Nat):Int)-1)=(m:Int):=by rw[w64 (by omega) (by omega)];omega
  refine⟨q.2,bytesIn_right (hl▸hp),rfl,?_⟩
  unfold spansF
  simp only[hm1,decide_true,beq_self_eq_true,cond_true,O_codec_Reader_Err,Option.bind_some,ho,List.length_cons,List.length_nil,Nat.zero_add,hmm,hw]
 ·have he:rSpan p = .error e:=he
  obtain⟨_,b',v,ho⟩:=runs_span.error p hp e he
  have hm1:(((m+1:Nat):Int)>0):=by omega
  have hmm:(acc.length+1)*(40+1)≤most:=by unfold most;omega
  have hw:IntKind.wrap .i64 (((m+1:Nat):Int)-1)=(m:Int):=by rw[w64 (by omega) (by omega)];omega
  refine⟨b',v,?_⟩
  unfold spansF
  simp only[hm1,decide_true,beq_self_eq_true,cond_true,O_codec_Reader_Err,Option.bind_some,ho,List.length_cons,List.length_nil,Nat.zero_add,hmm,hw]
 ·unfold spansF
  have h0:¬(((0:Nat):Int)>0):=by decide
  simp only[h0,decide_false,Bool.false_beq,Bool.not_true,cond_false,Option.bind_some]
theorem deltaRead_eq (b:List Int) (hb:bytesIn b):O_delta_Read b=some (readRes zeroD id (rDelta b)):=by
 unfold O_delta_Read
 have hb2:=hb.2
 rw[newReader_eq b hb2]
 simp only[Option.bind_some]
 have herr:∀(st:List Int×Int) (e:Int) b',st=(b',e)→e≠0→rDelta b = .error e→∀(v0 v1:Int) (sp:List Sp),((O_codec_Reader_Number st).bind fun r59=>(O_codec_Reader_Number r59.1).bind fun r60=>(O_codec_Reader_Bool r60.1).bind fun r61=>(O_codec_Reader_Text (r61.1,64)).bind fun r62=>(O_codec_Reader_Number r62.1).bind fun r63=>(O_codec_Reader_Done r63.1).bind fun r64=>
  (bif (r64.2 != 0) then (some (zeroD,r64.2)) else ((F_delta_Right (v0,v1,sp,r59.2,r60.2,r61.2,toB r62.2,r63.2)).bind fun r65=>(bif (!r65) then (some (zeroD,6)) else (some ((v0,v1,sp,r59.2,r60.2,r61.2,toB r62.2,r63.2),0))))))=some (readRes zeroD id (rDelta b)):=by
  intro st e b' hst he hr v0 v1 sp
  subst hst
  obtain⟨v,hv⟩:=runs_tail.bad b' e he
  obtain⟨r1,r2,r3,r4,r5,h1,h2,h3,h4,h5,h6⟩:=tail_some hv
  have h6':r5.1=(b',e):=by rw[Prod.mk.injEq]at h6;exact h6.1.symm
  have hne:(e != 0)=true:=by simpa using he
  simp only[h1,h2,h3,h4,h5,Option.bind_some,h6',done_eq,if_neg he,hne,cond_true,hr,readRes]
 cases hn:rNums 3 b with
 |error e=>
  obtain⟨k1,b',v,k2⟩:=runs_three.error b hb e hn
  obtain⟨r1,r2,r3,e1,e2,e3,e4⟩:=three_some k2
  simp only[Prod.mk.injEq]at e4
  have hr:rDelta b = .error e:=by unfold rDelta rAll;rw[Rd.then_error hn]
  simp only[e1,e2,e3,Option.bind_some,←e4.1]
  show ((iterL spansF (b',e,r1.2,r2.2,[],0,0,false,[],0,r3.2)).bind _)=_
  rw[iterL_inr (spansF_exit b' r1.2 r2.2 [] r3.2 k1)]
  exact herr (b',e) e b' rfl k1 hr r1.2 r2.2 []
 |ok p=>
  obtain⟨r1,r2,r3,e1,e2,e3,e4⟩:=three_some (runs_three.ok b hb p hn)
  simp only[Prod.mk.injEq]at e4
  have hp:=(nums_right hb hn).1
  have n2:=nth hb hn 2 (by omega)
  have g0:r1.2=p.1.getD 0 0:=by rw[e4.2];rfl
  have g1:r2.2=p.1.getD 1 0:=by rw[e4.2];rfl
  have g2:r3.2=(((p.1.getD 2 0).toNat:Nat):Int):=by rw[Int.toNat_of_nonneg n2.2.1,e4.2];rfl
  simp only[e1,e2,e3,Option.bind_some,←e4.1,g2]
  obtain⟨s1,s2⟩:=spansF_run r1.2 r2.2 (p.1.getD 2 0).toNat p.2 (by omega) hp
  cases hs:rSpans (p.1.getD 2 0).toNat p.2 with
  |error e=>
   obtain⟨k1,p',acc',m',k2⟩:=s2 e hs
   have hr:rDelta b = .error e:=by unfold rDelta rAll;rw[Rd.then_ok hn,Rd.then_error hs]
   show ((iterL spansF (p.2,0,r1.2,r2.2,[],0,0,false,[],0,(((p.1.getD 2 0).toNat:Nat):Int))).bind _)=_
   rw[k2]
   exact herr (p',e) e p' rfl k1 hr r1.2 r2.2 acc'
  |ok q=>
   obtain⟨hq,k2⟩:=s1 q hs
   show ((iterL spansF (p.2,0,r1.2,r2.2,[],0,0,false,[],0,(((p.1.getD 2 0).toNat:Nat):Int))).bind _)=_
   rw[k2]
   simp only[Option.bind_some]
   cases ht:rTail q.2 with
   |error e=>
    obtain⟨k1,b',v,hv⟩:=runs_tail.error q.2 hq e ht
    have hr:rDelta b = .error e:=by unfold rDelta rAll;rw[Rd.then_ok hn,Rd.then_ok hs,Rd.then_error ht]
    obtain⟨r1',r2',r3',r4',r5',h1,h2,h3,h4,h5,h6⟩:=tail_some hv
    have h6':r5'.1=(b',e):=by rw[Prod.mk.injEq]at h6;exact h6.1.symm
    have hne:(e != 0)=true:=by simpa using k1
    simp only[h1,h2,h3,h4,h5,Option.bind_some,h6',done_eq,if_neg k1,hne,cond_true,hr,readRes]
    rfl
   |ok x=>
    obtain⟨r1',r2',r3',r4',r5',h1,h2,h3,h4,h5,h6⟩:=tail_some (runs_tail.ok q.2 hq x ht)
    have h6':r5'.1=(x.2,0):=by rw[Prod.mk.injEq]at h6;exact h6.1.symm
    have h7:x.1=(r1'.2,r2'.2,r3'.2,r4'.2,r5'.2):=by rw[Prod.mk.injEq]at h6;exact h6.2
    have hall:rAll b = .ok ((r1.2,r2.2,q.1,r1'.2,r2'.2,r3'.2,r4'.2,r5'.2),x.2):=by
     unfold rAll
     rw[Rd.then_ok hn,Rd.then_ok hs,Rd.then_ok ht,h7,g0,g1]
    obtain⟨f1,f2,f3⟩:=rSpans_back (sp:=q.1) (r:=q.2) hp hs
    obtain⟨t1,t2,t3⟩:=rTail_back (x:=x.1) (r:=x.2) hq ht
    have hfew:fewD (asD (r1.2,r2.2,q.1,r1'.2,r2'.2,r3'.2,r4'.2,r5'.2)):=by
     refine⟨?_,fun s hs=>by have:=span_len (f1 s hs);omega,?_⟩
     ·have:q.1.length≤(q.1.flatMap encSpan).length:=by
       have:∀l:List Sp,l.length≤(l.flatMap encSpan).length:=fun l=>by
        induction l with
        |nil=>simp
        |cons s l ih=>have:=encSpan_pos s;simp only[List.flatMap_cons,List.length_append,List.length_cons];omega
       exact this q.1
      have h2:=congrArg List.length f3
      rw[List.length_append]at h2
      have:=hp.2
      show q.1.length≤_
      omega
     ·have h2:=t1.2.2.2.2.1
      rw[h7]at h2
      show (toB r4'.2).length≤_
      simp only[toB,List.length_map]at h2 ⊢
      omega
    have hright:=deltaRight_eq _ hfew
    have hd:rDelta b=if x.2=[] then if deltaOk (asD (r1.2,r2.2,q.1,r1'.2,r2'.2,r3'.2,r4'.2,r5'.2))=true then .ok (asD (r1.2,r2.2,q.1,r1'.2,r2'.2,r3'.2,r4'.2,r5'.2)) else .error 6 else .error 5:=by
     unfold rDelta;rw[hall]
    simp only[h1,h2,h3,h4,h5,Option.bind_some,h6',done_eq,if_true]
    by_cases hx:x.2=[]
    ·rw[hd,if_pos hx]
     simp only[hx,if_true,bne_self_eq_false,cond_false]
     have hr2:F_delta_Right (r1.2,(r2.2,(q.1,(r1'.2,(r2'.2,(r3'.2,((r4'.2.map fun n=>UInt8.ofNat (Int.toNat n)),r5'.2)))))))=some (deltaOk (asD (r1.2,r2.2,q.1,r1'.2,r2'.2,r3'.2,r4'.2,r5'.2))):=hright
     rw[hr2]
     simp only[Option.bind_some]
     cases deltaOk (asD (r1.2,r2.2,q.1,r1'.2,r2'.2,r3'.2,r4'.2,r5'.2))<;>rfl
    ·rw[hd,if_neg hx]
     simp only[hx,if_false]
     rfl
end Go.Ideal.Seat
set_option linter.unusedVariables false
set_option linter.unusedSimpArgs false
namespace Go.Ideal.Seat
open Go.Ideal.Plain
abbrev SG:=Int×Int×Int×Int×List Sp×Int×Int×List Cell×Int×Int×Bool×List UInt8×Int×Int
abbrev XG:=Int×Int×Int×Int×List Sp×Int×Int×List Cell×Int×Int×Bool×List UInt8×Int×Int×Bool
noncomputable def spansG (x l:List Int):SG→Option (SG⊕XG):=(fun s62=>(((l[2]?).bind fun e63=>(bif ((decide (s62.2.2.2.2.2.2.2.2.2.2.2.2.2<e63))==true) then (some (s62.2.1==0)) else (some false))).bind fun v64=>(bif v64 then ((F_batonref18_span (x,s62.1)).bind fun r65=>(bif decide ((s62.2.2.2.2.1.length+([r65.1]:List ((Int)×(Int)×List (Cell))).length)*(40+1)≤most) then (some (Sum.inl (r65.2.1,(r65.2.2,(s62.2.2.1,(s62.2.2.2.1,((s62.2.2.2.2.1++([r65.1]:List ((Int)×(Int)×List (Cell)))),(s62.2.2.2.2.2.1,(s62.2.2.2.2.2.2.1,(s62.2.2.2.2.2.2.2.1,(s62.2.2.2.2.2.2.2.2.1,(s62.2.2.2.2.2.2.2.2.2.1,(s62.2.2.2.2.2.2.2.2.2.2.1,(s62.2.2.2.2.2.2.2.2.2.2.2.1,(s62.2.2.2.2.2.2.2.2.2.2.2.2.1,(IntKind.wrap .i64 (s62.2.2.2.2.2.2.2.2.2.2.2.2.2+1))))))))))))))))) else none)) else (some (Sum.inr (s62.1,(s62.2.1,(s62.2.2.1,(s62.2.2.2.1,(s62.2.2.2.2.1,(s62.2.2.2.2.2.1,(s62.2.2.2.2.2.2.1,(s62.2.2.2.2.2.2.2.1,(s62.2.2.2.2.2.2.2.2.1,(s62.2.2.2.2.2.2.2.2.2.1,(s62.2.2.2.2.2.2.2.2.2.2.1,(s62.2.2.2.2.2.2.2.2.2.2.2.1,(s62.2.2.2.2.2.2.2.2.2.2.2.2.1,(s62.2.2.2.2.2.2.2.2.2.2.2.2.2,v64)))))))))))))))))))
theorem spansG_exit (x l:List Int) (hl:∃v,l[2]? = some v) (p:Int) {e:Int} (v0 v1:Int) (acc:List Sp) (i:Int) (he:e≠0):spansG x l (p,e,v0,v1,acc,0,0,[],0,0,false,[],0,i)=some (.inr (p,e,v0,v1,acc,0,0,[],0,0,false,[],0,i,false)):=by
 obtain⟨v,hv⟩:=hl
 have h1:(e==0)=false:=by simpa using he
 unfold spansG
 simp only[hv,Option.bind_some,h1]
 cases decide (i<v)<;>rfl
theorem spansG_run (x:List Int) (hx:bytesIn x) (l:List Int) (N:Nat) (hl:l[2]? = some (N:Int)) (hN:N≤72057594037927935) (v0 v1:Int) (k:Nat) (hk:k≤x.length):
 (∀q,rSpans N (x.drop k) = .ok q→∃j:Nat,j≤x.length∧q.2=x.drop j∧iterL (spansG x l) ((k:Int),0,v0,v1,[],0,0,[],0,0,false,[],0,0)=some ((j:Int),0,v0,v1,q.1,0,0,[],0,0,false,[],0,(N:Int),false))∧
 (∀e,rSpans N (x.drop k) = .error e→e≠0∧∃p' acc' i',iterL (spansG x l) ((k:Int),0,v0,v1,[],0,0,[],0,0,false,[],0,0)=some (p',e,v0,v1,acc',0,0,[],0,0,false,[],0,i',false)):=by
 have hx2:=hx.2
 have key:=spansLoop (S:=SG) (X:=XG) (P:=Int) (fun p e acc m=>(p,e,v0,v1,acc,0,0,[],0,0,false,[],0,(N:Int)-(m:Int))) (fun p e acc m=>(p,e,v0,v1,acc,0,0,[],0,0,false,[],0,(N:Int)-(m:Int),false)) (fun p=>x.drop p.toNat) (fun p=>∃j:Nat,j≤x.length∧p=(j:Int)) (F:=spansG x l)
  (fun p hp=>bytesIn_drop hx _) N
  (fun p acc m hm hp hal=>⟨fun q hq=>?_,fun e he=>?_⟩) (fun p acc=>?_) (fun p e acc m he=>spansG_exit x l ⟨_,hl⟩ p v0 v1 acc _ he) N (k:Int) [] (Nat.le_refl _) ⟨k,hk,rfl⟩ (by simp only[List.length_nil,List.length_drop];omega)
 ·simp only[Int.sub_self,Int.toNat_natCast]at key
  obtain⟨k1,k2⟩:=key
  refine⟨fun q hq=>?_,fun e he=>?_⟩
  ·obtain⟨p',⟨j,hj,rfl⟩,g2,g3⟩:=k1 q hq
   rw[Int.toNat_natCast]at g2
   simp only[List.nil_append,Int.natCast_zero,Int.sub_zero]at g3
   exact⟨j,hj,g2.symm,g3⟩
  ·obtain⟨h0,p',acc',m',h1⟩:=k2 e he
   exact⟨h0,p',acc',_,h1⟩
 ·obtain⟨j,hj,rfl⟩:=hp
  rw[Int.toNat_natCast]at hq
  obtain⟨j',hj',e1,e2⟩:=(ref_span x hx).ok j hj q hq
  have hm1:(N:Int)-((m+1:Nat):Int)<(N:Int):=by omega
  have hmm:(acc.length+1)*(40+1)≤most:=by unfold most;omega
  have hw:IntKind.wrap .i64 ((N:Int)-((m+1:Nat):Int)+1)=(N:Int)-(m:Int):=by rw[w64 (by omega) (by omega)];omega
  refine⟨(j':Int),⟨j',hj',rfl⟩,by rw[Int.toNat_natCast];exact e1.symm,?_⟩
  unfold spansG
  simp only[hl,Option.bind_some,hm1,decide_true,beq_self_eq_true,cond_true,e2,List.length_cons,List.length_nil,Nat.zero_add,hmm,hw]
 ·obtain⟨j,hj,rfl⟩:=hp
  rw[Int.toNat_natCast]at he
  obtain⟨_,v,j',e2⟩:=(ref_span x hx).error j hj e he
  have hm1:(N:Int)-((m+1:Nat):Int)<(N:Int):=by omega
  have hmm:(acc.length+1)*(40+1)≤most:=by unfold most;omega
  have hw:IntKind.wrap .i64 ((N:Int)-((m+1:Nat):Int)+1)=(N:Int)-(m:Int):=by rw[w64 (by omega) (by omega)];omega
  refine⟨j',v,?_⟩
  unfold spansG
  simp only[hl,Option.bind_some,hm1,decide_true,beq_self_eq_true,cond_true,e2,List.length_cons,List.length_nil,Nat.zero_add,hmm,hw]
 ·have h0:¬((N:Int)-((0:Nat):Int)<(N:Int)):=by omega
  unfold spansG
  simp only[hl,Option.bind_some,h0,decide_false,Bool.false_beq,Bool.not_true,cond_false,Option.bind_some]
theorem tail_nums:rTail=(rNums 2).then fun vs=>rBool.then fun h=>(rText 64).then fun t=>(rNums 1).then fun ws l=>.ok ((vs.getD 0 0,vs.getD 1 0,h,t,ws.getD 0 0),l):=by
 simp only[rNums,Rd.then_assoc,Rd.then_pure]
 rfl
theorem cellOk_rune {l:List Cell} (h:∀c∈l,cellOk c=true):runesIn l:=fun c hc=>by
 have:=cell_nat (h c hc)
 omega
theorem refRead_eq (b:List Int) (hb:bytesIn b):F_batonref18_Read b=some (readRes (refD zeroD) refD (rDelta b)):=by
 unfold F_batonref18_Read
 have hb2:=hb.2
 obtain⟨n1,n2⟩:=ref_nums b hb 3 (by decide) 0 (by omega)
 simp only[Int.natCast_zero,Int.cast_ofNat_Int,List.drop_zero]at n1 n2
 cases hn:rNums 3 b with
 |error e=>
  obtain⟨k1,a,k2⟩:=n2 e hn
  have hr:rDelta b = .error e:=by unfold rDelta rAll;rw[Rd.then_error hn]
  have h0:(List.replicate 3 (0:Int))[0]? = some 0:=rfl
  have h1:(List.replicate 3 (0:Int))[1]? = some 0:=rfl
  have hne:(e != 0)=true:=by simpa using k1
  simp only[k2,Option.bind_some,h0,h1]
  show ((iterL (spansG b (List.replicate 3 0)) (a,e,0,0,[],0,0,[],0,0,false,[],0,0)).bind _)=_
  rw[iterL_inr (spansG_exit b _ ⟨0,rfl⟩ a 0 0 [] 0 k1)]
  simp only[Option.bind_some,hne,cond_true,hr]
  rfl
 |ok p=>
  obtain⟨j,hj,e1,e2⟩:=n1 p hn
  have hp:=(nums_right hb hn).1
  have m0:=nth hb hn 0 (by omega)
  have m1:=nth hb hn 1 (by omega)
  have m2:=nth hb hn 2 (by omega)
  have m2':p.1[2]? = some (((p.1.getD 2 0).toNat:Nat):Int):=by rw[Int.toNat_of_nonneg m2.2.1];exact m2.1
  obtain⟨s1,s2⟩:=spansG_run b hb p.1 (p.1.getD 2 0).toNat m2' (by omega) (p.1.getD 0 0) (p.1.getD 1 0) j hj
  rw[←e1]at s1 s2
  simp only[e2,Option.bind_some,m0.1,m1.1]
  cases hs:rSpans (p.1.getD 2 0).toNat p.2 with
  |error e=>
   obtain⟨k1,p',acc',m',k2⟩:=s2 e hs
   have hr:rDelta b = .error e:=by unfold rDelta rAll;rw[Rd.then_ok hn,Rd.then_error hs]
   have hne:(e != 0)=true:=by simpa using k1
   show ((iterL (spansG b p.1) ((j:Int),0,p.1.getD 0 0,p.1.getD 1 0,[],0,0,[],0,0,false,[],0,0)).bind _)=_
   rw[k2]
   simp only[Option.bind_some,hne,cond_true,hr]
   rfl
  |ok q=>
   obtain⟨j2,hj2,q2,k2⟩:=s1 q hs
   obtain⟨f1,f2,f3⟩:=rSpans_back (sp:=q.1) (r:=q.2) hp hs
   have hq:=bytesIn_right (f3▸hp)
   show ((iterL (spansG b p.1) ((j:Int),0,p.1.getD 0 0,p.1.getD 1 0,[],0,0,[],0,0,false,[],0,0)).bind _)=_
   rw[k2]
   obtain⟨t1,t2⟩:=ref_nums b hb 2 (by decide) j2 hj2
   rw[←q2]at t1 t2
   simp only[Int.cast_ofNat_Int]at t1 t2
   simp only[Option.bind_some,bne_self_eq_false,cond_false]
   have hall:∀e,rTail q.2 = .error e→rDelta b = .error e:=fun e h=>by unfold rDelta rAll;rw[Rd.then_ok hn,Rd.then_ok hs,Rd.then_error h]
   cases hv:rNums 2 q.2 with
   |error e=>
    obtain⟨k1,a,k2⟩:=t2 e hv
    have hr:=hall e (by rw[tail_nums,Rd.then_error hv])
    have hne:(e != 0)=true:=by simpa using k1
    simp only[k2,Option.bind_some,hne,cond_true,hr]
    rfl
   |ok v=>
    obtain⟨j3,hj3,v2,k3⟩:=t1 v hv
    have o0:=nth hq hv 0 (by omega)
    have o1:=nth hq hv 1 (by omega)
    have hvb:=(nums_right hq hv).1
    simp only[k3,Option.bind_some,bne_self_eq_false,cond_false,o0.1,o1.1]
    cases hw:b.drop j3 with
    |nil=>
     have hr:=hall 4 (by rw[tail_nums,Rd.then_ok hv,v2,hw];rfl)
     have hge:(j3:Int)≥(b.length:Int):=by have:=List.drop_eq_nil_iff.1 hw;omega
     simp only[hge,decide_true,cond_true,hr]
     rfl
    |cons c r=>
     have hlt:j3<b.length:=by
      have:=congrArg List.length hw;simp at this;omega
     have hge:¬(j3:Int)≥(b.length:Int):=by omega
     have hw':=hw
     rw[List.drop_eq_getElem_cons hlt,List.cons.injEq]at hw'
     have hgj:b[j3]? = some c:=by rw[List.getElem?_eq_getElem hlt,hw'.1]
     simp only[hge,decide_false,cond_false,Int.natCast_nonneg,decide_true,cond_true,Int.toNat_natCast,hgj,Option.bind_some]
     by_cases hc:c>1
     ·have hr:=hall 6 (by rw[tail_nums,Rd.then_ok hv,v2,hw,Rd.then_error (e:=6) (by simp only[rBool,if_pos hc])])
      simp only[hc,decide_true,cond_true,hr]
      rfl
     ·have hbool:rBool (b.drop j3) = .ok (c==1,r):=by rw[hw];simp only[rBool,if_neg hc]
      have hr1:r=b.drop (j3+1):=hw'.2.symm
      have hw1:=wsucc (i:=j3) (by omega)
      simp only[hc,decide_false,cond_false,hw1]
      cases hx:rText 64 r with
      |error e=>
       obtain⟨k1,a,a',k4⟩:=(ref_text b hb 64 (by decide)).error (j3+1) (by omega) e (by rw[←hr1];exact hx)
       have hr:=hall e (by rw[tail_nums,Rd.then_ok hv,v2,Rd.then_ok hbool,Rd.then_error hx])
       have hne:(e != 0)=true:=by simpa using k1
       simp only[Int.cast_ofNat_Int]at k4
       simp only[k4,Option.bind_some,hne,cond_true,hr]
       rfl
      |ok y=>
       obtain⟨j4,hj4,y2,k4⟩:=(ref_text b hb 64 (by decide)).ok (j3+1) (by omega) y (by rw[←hr1];exact hx)
       simp only[Int.cast_ofNat_Int]at k4
       obtain⟨u1,u2⟩:=ref_nums b hb 1 (by decide) j4 hj4
       rw[←y2]at u1 u2
       simp only[Int.natCast_one]at u1 u2
       simp only[k4,Option.bind_some,bne_self_eq_false,cond_false]
       cases hz:rNums 1 y.2 with
       |error e=>
        obtain⟨k1,a,k5⟩:=u2 e hz
        have hr:=hall e (by rw[tail_nums,Rd.then_ok hv,v2,Rd.then_ok hbool,Rd.then_ok hx,Rd.then_error hz])
        have hne:(e != 0)=true:=by simpa using k1
        simp only[k5,Option.bind_some,hne,cond_true,hr]
        rfl
       |ok z=>
        obtain⟨j5,hj5,z2,k5⟩:=u1 z hz
        have hyb:bytesIn y.2:=y2▸bytesIn_drop hb _
        have w0:=nth hyb hz 0 (by omega)
        have htail:rTail q.2 = .ok ((v.1.getD 0 0,v.1.getD 1 0,(c==1),y.1,z.1.getD 0 0),z.2):=by
         rw[tail_nums,Rd.then_ok hv,v2,Rd.then_ok hbool,Rd.then_ok hx,Rd.then_ok hz]
        have hall2:rAll b = .ok ((p.1.getD 0 0,p.1.getD 1 0,q.1,v.1.getD 0 0,v.1.getD 1 0,(c==1),y.1,z.1.getD 0 0),z.2):=by
         unfold rAll
         rw[Rd.then_ok hn,Rd.then_ok hs,Rd.then_ok htail]
        obtain⟨t1,_,_⟩:=rTail_back (x:=(v.1.getD 0 0,v.1.getD 1 0,(c==1),y.1,z.1.getD 0 0)) (r:=z.2) hq htail
        have hfew:fewD (asD (p.1.getD 0 0,p.1.getD 1 0,q.1,v.1.getD 0 0,v.1.getD 1 0,(c==1),y.1,z.1.getD 0 0)):=by
         refine⟨?_,fun s hs=>by have:=span_len (f1 s hs);omega,?_⟩
         ·have:∀l:List Sp,l.length≤(l.flatMap encSpan).length:=fun l=>by
           induction l with
           |nil=>simp
           |cons s l ih=>have:=encSpan_pos s;simp only[List.flatMap_cons,List.length_append,List.length_cons];omega
          have:=this q.1
          have h2:=congrArg List.length f3
          rw[List.length_append]at h2
          have:=hp.2
          show q.1.length≤_
          omega
         ·have h2:=t1.2.2.2.2.1
          show (toB y.1).length≤_
          simp only[toB,List.length_map]at h2 ⊢
          omega
        have hright:=refRight_eq _ hfew (fun s hs=>cellOk_rune (f1 s hs).2.2.2.2.2.2)
        have hd:rDelta b=if z.2=[] then if deltaOk (asD (p.1.getD 0 0,p.1.getD 1 0,q.1,v.1.getD 0 0,v.1.getD 1 0,(c==1),y.1,z.1.getD 0 0))=true then .ok (asD (p.1.getD 0 0,p.1.getD 1 0,q.1,v.1.getD 0 0,v.1.getD 1 0,(c==1),y.1,z.1.getD 0 0)) else .error 6 else .error 5:=by
         unfold rDelta;rw[hall2]
        simp only[k5,Option.bind_some,bne_self_eq_false,cond_false,w0.1]
        by_cases hlast:(j5:Int)<(b.length:Int)
        ·have hne:z.2≠[]:=by rw[z2];intro h;have:=List.drop_eq_nil_iff.1 h;omega
         rw[hd,if_neg hne]
         simp only[hlast,decide_true,cond_true]
         rfl
        ·have hnil:z.2=[]:=by rw[z2];exact List.drop_eq_nil_iff.2 (by omega)
         rw[hd,if_pos hnil]
         simp only[hlast,decide_false,cond_false]
         have hr2:F_batonref18_Right (p.1.getD 0 0,(p.1.getD 1 0,(q.1,(0,(0,([],(v.1.getD 0 0,(v.1.getD 1 0,((c==1),((y.1.map fun n=>UInt8.ofNat (Int.toNat n)),z.1.getD 0 0))))))))))=some (deltaOk (asD (p.1.getD 0 0,p.1.getD 1 0,q.1,v.1.getD 0 0,v.1.getD 1 0,(c==1),y.1,z.1.getD 0 0))):=hright
         rw[hr2]
         simp only[Option.bind_some]
         cases deltaOk (asD (p.1.getD 0 0,p.1.getD 1 0,q.1,v.1.getD 0 0,v.1.getD 1 0,(c==1),y.1,z.1.getD 0 0))<;>rfl
end Go.Ideal.Seat
set_option linter.unusedVariables false
set_option linter.unusedSimpArgs false
namespace Go.Ideal.Seat
open Go.Ideal.Plain
theorem rSpans_err:∀{n:Nat} {l:List Int} {e:Int},bytesIn l→rSpans n l = .error e→e≠0
 |0,l,e,hl,h=>by simp[rSpans]at h
 |n+1,l,e,hl,h=>by
  simp only[rSpans]at h
  cases hn:rSpan l with
  |error e'=>
   rw[Rd.then_error hn]at h
   injection h with h;subst h
   exact rSpan_err hl hn
  |ok p=>
   rw[Rd.then_ok hn]at h
   obtain⟨_,f⟩:=rSpan_back (s:=p.1) (r:=p.2) hl hn
   cases hm:rSpans n p.2 with
   |error e'=>rw[Rd.then_error hm]at h;injection h with h;subst h;exact rSpans_err (bytesIn_right (f▸hl)) hm
   |ok q=>rw[Rd.then_ok hm]at h;cases h
theorem rDelta_err {b:List Int} {e:Int} (hb:bytesIn b) (h:rDelta b = .error e):e≠0:=by
 unfold rDelta at h
 split at h
 ·rename_i e' hp
  injection h with h;subst h
  unfold rAll at hp
  cases hn:rNums 3 b with
  |error e'=>rw[Rd.then_error hn]at hp;injection hp with hp;subst hp;exact rNums_err hn
  |ok p=>
   rw[Rd.then_ok hn]at hp
   have hp1:=(nums_right hb hn).1
   cases hs:rSpans (p.1.getD 2 0).toNat p.2 with
   |error e'=>rw[Rd.then_error hs]at hp;injection hp with hp;subst hp;exact rSpans_err hp1 hs
   |ok q=>
    rw[Rd.then_ok hs]at hp
    obtain⟨_,_,f3⟩:=rSpans_back (sp:=q.1) (r:=q.2) hp1 hs
    cases ht:rTail q.2 with
    |error e'=>rw[Rd.then_error ht]at hp;injection hp with hp;subst hp;exact(runs_tail.error q.2 (bytesIn_right (f3▸hp1)) _ ht).1
    |ok x=>rw[Rd.then_ok ht]at hp;cases hp
 ·split at h
  ·split at h
   ·cases h
   ·injection h with h;omega
  ·injection h with h;omega
end Go.Ideal.Seat
set_option linter.unusedVariables false
set_option linter.unusedSimpArgs false
namespace Go.Ideal.Seat
open Go.Ideal.Plain
end Go.Ideal.Seat
set_option linter.unusedVariables false
set_option linter.unusedSimpArgs false
namespace Go.Ideal.Seat
open Go.Ideal.Plain
def blankI (r c:Int):Img:=(r,c,(grid0 r c).2.2,0,0,false,[],0)
def zeroI:Img:=(0,0,[],0,0,false,[],0)
theorem blankP_eq (r c:Int):F_paint_Blank (r,c)=some (if sizeOk r c=true then (blankI r c,0) else (zeroI,22)):=by
 unfold F_paint_Blank O_grid_New
 rw[size_eq]
 cases hs:sizeOk r c with
 |false=>rfl
 |true=>
  obtain⟨h1,h2,h3⟩:=size_mul hs
  have hb:=blanks_eq (r*c).toNat (by omega)
  rw[Int.toNat_of_nonneg (by omega)]at hb
  simp only[Option.bind_some,Bool.not_true,cond_false,h3,hb]
  simp only[O_grid_Board_Grid,clone_eq (List.replicate (r*c).toNat blankC) (by simp;omega),Option.bind_some,decide_true,cond_true,if_true]
  rfl
theorem viewNew_eq (r c:Int):O_view_New (r,c)=some (if sizeOk r c=true then ((0,blankI r c),0) else ((0,zeroI),22)):=by
 unfold O_view_New
 rw[blankP_eq]
 cases hs:sizeOk r c<;>rfl
abbrev Vw:=Int×Img
noncomputable def viewOk (v:Vw):Bool:=decide (0≤v.1∧v.1≤281474976710656)&&imageOk v.2
theorem viewRight_eq (v:Vw) (h1:v.2.2.2.1.length<2^60) (h2:v.2.2.2.2.2.2.2.1.length<2^60):F_view_Right v=some (viewOk v):=by
 unfold F_view_Right viewOk
 rw[paintRight_eq v.2 h1 h2]
 by_cases a:v.1≥0<;>by_cases b:v.1≤281474976710656<;>simp[a,b]<;>omega
theorem refView_eq (v:Vw) (h1:v.2.2.2.1.length<2^60) (h2:v.2.2.2.2.2.2.2.1.length<2^40) (hr:runesIn v.2.2.2.1):F_batonref35_Right v=some (viewOk v):=by
 unfold F_batonref35_Right viewOk
 rw[refImage_eq v.2 h1 h2 hr]
 by_cases a:v.1≥0<;>by_cases b:v.1≤281474976710656<;>simp[a,b]<;>omega
noncomputable def viewApply (v:Vw) (base to:Int) (data:List Int):Vw×Int:=
 if base<0∨to≤base∨to>281474976710656 then (v,1) else if to≤v.1 then (v,0) else if base≠v.1 then (v,20) else
  match rDelta data with
  |.error e=>(v,e)
  |.ok d=>((to,applied v.2 d),0)
theorem delta_few {b:List Int} {d:Dlt} (hb:bytesIn b) (h:rDelta b = .ok d):deltaOk d=true∧fewD d∧d.2.2.1.length≤b.length:=by
 obtain⟨e1,e2⟩:=rDelta_back hb h
 have hb2:=hb.2
 have hspl:d.2.2.1.length≤b.length:=by
  have key:∀l:List Sp,l.length≤(l.flatMap encSpan).length:=fun l=>by
   induction l with
   |nil=>simp
   |cons s l ih=>have:=encSpan_pos s;simp only[List.flatMap_cons,List.length_append,List.length_cons];omega
  have:=key d.2.2.1
  have h2:=congrArg List.length e1
  unfold encDelta at h2
  simp only[List.length_append,List.length_cons]at h2
  omega
 have hfine:=(delta_fine e2)
 exact⟨e2,⟨by omega,fun s hs=>by have:=span_len (hfine.2.1 s hs);omega,by have:=hfine.2.2.2.2.2.2.1;omega⟩,hspl⟩
theorem viewApply_eq (v:Vw) (base to:Int) (data:List Int) (hd:bytesIn data) (h1:v.2.2.2.1.length≤2^36) (h2:v.2.2.2.2.2.2.2.1.length≤2^36) (hv:imageOk v.2=true):O_view_Apply (v,base,to,data)=some (viewApply v base to data):=by
 unfold O_view_Apply viewApply
 have key:(bif ((decide (base<0))==false) then (bif ((decide (base≥to))==false) then (some (decide (to>281474976710656))) else (some true)) else (some true))=some (decide (base<0∨to≤base∨to>281474976710656)):=by
  by_cases a:base<0<;>by_cases b:to≤base<;>by_cases c:to>281474976710656<;>simp[a,b,c]<;>omega
 simp only[key,Option.bind_some]
 by_cases a:base<0∨to≤base∨to>281474976710656
 ·simp only[a,decide_true,cond_true,if_true]
 ·simp only[a,decide_false,cond_false,if_false]
  by_cases b:to≤v.1
  ·simp only[b,decide_true,cond_true,if_true]
  ·simp only[b,decide_false,cond_false,if_false]
   by_cases c:base=v.1
   ·simp only[c,bne_self_eq_false,cond_false,ne_eq,not_true_eq_false,if_false,deltaRead_eq data hd,Option.bind_some]
    cases hr:rDelta data with
    |error e=>
     have hne:(e != 0)=true:=by simpa using rDelta_err hd hr
     simp only[readRes,hne,cond_true]
    |ok d=>
     obtain⟨k1,k2,_⟩:=delta_few hd hr
     simp only[readRes,id_eq,bne_self_eq_false,cond_false,apply_eq v.2 d h1 h2 k2,hv,k1,if_true,Option.bind_some]
   ·have:(base != v.1)=true:=by simpa using c
    simp only[this,cond_true,ne_eq,c,not_false_eq_true,if_true]
theorem refViewApply_eq (v:Vw) (base to:Int) (data:List Int) (hd:bytesIn data) (hv:imageOk v.2=true):F_batonref35_Apply (v.1,v.2,base,to,data)=some ((viewApply v base to data).1.1,(viewApply v base to data).1.2,(viewApply v base to data).2):=by
 unfold F_batonref35_Apply viewApply
 have key:(bif ((decide (base<0))==false) then (bif ((decide (to≤base))==false) then (some (decide (to>281474976710656))) else (some true)) else (some true))=some (decide (base<0∨to≤base∨to>281474976710656)):=by
  by_cases a:base<0<;>by_cases b:to≤base<;>by_cases c:to>281474976710656<;>simp[a,b,c]<;>omega
 simp only[key,Option.bind_some]
 by_cases a:base<0∨to≤base∨to>281474976710656
 ·simp only[a,decide_true,cond_true,if_true]
 ·simp only[a,decide_false,cond_false,if_false]
  by_cases b:to≤v.1
  ·simp only[b,decide_true,cond_true,if_true]
  ·simp only[b,decide_false,cond_false,if_false]
   by_cases c:base=v.1
   ·simp only[c,bne_self_eq_false,cond_false,ne_eq,not_true_eq_false,if_false,refRead_eq data hd,Option.bind_some]
    cases hr:rDelta data with
    |error e=>
     have hne:(e != 0)=true:=by simpa using rDelta_err hd hr
     simp only[readRes,hne,cond_true]
    |ok d=>
     obtain⟨k1,k2,_⟩:=delta_few hd hr
     simp only[readRes,bne_self_eq_false,cond_false,refApply_eq v.2 d hv k1 k2,Option.bind_some]
   ·have:(base != v.1)=true:=by simpa using c
    simp only[this,cond_true,ne_eq,c,not_false_eq_true,if_true]
theorem viewApply_ok {v:Vw} {base to:Int} {data:List Int} (hd:bytesIn data) (hv:viewOk v=true):viewOk (viewApply v base to data).1=true:=by
 unfold viewApply
 split
 ·exact hv
 ·split
  ·exact hv
  ·split
   ·exact hv
   ·rename_i a b c
    split
    ·exact hv
    ·rename_i d hr
     obtain⟨k1,k2,_⟩:=delta_few hd hr
     unfold viewOk at hv ⊢
     simp only[Bool.and_eq_true,decide_eq_true_eq]at hv ⊢
     exact⟨by omega,applied_ok hv.2 k1⟩
theorem img_small {x:Img} (h:imageOk x=true):x.2.2.1.length≤7920∧x.2.2.2.2.2.2.1.length≤64:=by
 obtain⟨R,C,_,_,_,_,_,_,h1,h2,_⟩:=img_nat h
 unfold imageOk titleOk at h
 simp only[Bool.and_eq_true,decide_eq_true_eq]at h
 exact⟨by omega,h.1.2.1.1⟩
theorem view_applies_law (x:Vw×List Int×List Int) (hr:runesIn x.1.2.2.2.1) (h2:x.2.1.length=2) (hb:∀y∈x.2.2,0≤y∧y<256):F_batonlaw35_ViewApplies x=some true:=by
 obtain⟨v,two,data⟩:=x
 obtain⟨p,q,rfl⟩:∃p q,two=[p,q]:=by
  match two,h2 with
  |[p,q],_=>exact⟨p,q,rfl⟩
 have g0:([p,q]:List Int)[0]? = some p:=rfl
 have g1:([p,q]:List Int)[1]? = some q:=rfl
 unfold F_batonlaw35_ViewApplies F_batonlaw35_awake
 simp only[few_eq,Option.bind_some,Bool.not_true,cond_false]
 cases hfa:(decide (v.2.2.2.1.length≤200)&&decide (v.2.2.2.2.2.2.2.1.length≤200)) with
 |false=>rfl
 |true=>
  simp only[Bool.and_eq_true,decide_eq_true_eq]at hfa
  simp only[Bool.not_true,beq_self_eq_true,cond_true,Option.bind_some]
  by_cases hl:(data.length:Int)>400
  ·simp only[hl,decide_true,cond_true]
  ·have hbi:bytesIn data:=⟨hb,by omega⟩
   simp only[hl,decide_false,cond_false,g0,g1,Option.bind_some,viewNew_eq,refSize_eq]
   have hnew:∀s,sizeOk p q=s→((bif s then ((bif (((if s=true then (((0:Int),blankI p q),(0:Int)) else ((0,zeroI),22)).2 != 0)==false) then (bif (((if s=true then (((0:Int),blankI p q),(0:Int)) else ((0,zeroI),22)).1.1 != 0)==false) then ((F_batonref10_New (p,q)).bind fun r94=>((F_batonref16_Same ((if s=true then (((0:Int),blankI p q),(0:Int)) else ((0,zeroI),22)).1.2,(r94.1,(r94.2.1,(r94.2.2,(0,(0,(false,(([]:List UInt8),0))))))))).bind fun r95=>(some (!r95)))) else (some true)) else (some true)).bind fun v96=>(bif v96 then (some (Sum.inl false)) else (some (Sum.inr ())))) else (bif ((if s=true then (((0:Int),blankI p q),(0:Int)) else ((0,zeroI),22)).2 != 22) then (some (Sum.inl false)) else (some (Sum.inr ())))):Option (Bool⊕Unit))=some (.inr ()):=by
    intro s hs
    cases s with
    |false=>rfl
    |true=>
     have hlen:(blankI p q).2.2.1.length≤2^60:=by
      have:=(size_mul hs).2.1
      unfold blankI grid0;simp;omega
     have hsame:=imgSame_refl (blankI p q) hlen
     unfold blankI at hsame
     simp only[cond_true,if_true,bne_self_eq_false,beq_self_eq_true,refNew_eq p q hs,Option.bind_some]
     unfold blankI
     have:(grid0 p q).1=p∧(grid0 p q).2.1=q:=⟨rfl,rfl⟩
     simp only[this.1,this.2,hsame,Option.bind_some,Bool.not_true,cond_false]
   simp only[hnew _ rfl,Option.bind_some,viewRight_eq v (by omega) (by omega),refView_eq v (by omega) (by omega) hr,beq_self_eq_true,Bool.not_true,cond_false]
   cases hv:viewOk v with
   |false=>rfl
   |true=>
    have hvi:imageOk v.2=true:=by unfold viewOk at hv;simp only[Bool.and_eq_true]at hv;exact hv.2
    have hok:=viewApply_ok (base:=p) (to:=q) hbi hv
    have hoki:imageOk (viewApply v p q data).1.2=true:=by unfold viewOk at hok;simp only[Bool.and_eq_true]at hok;exact hok.2
    obtain⟨s1,s2⟩:=img_small hoki
    simp only[Bool.not_true,cond_false,viewApply_eq v p q data hbi (by omega) (by omega) hvi,refViewApply_eq v p q data hbi hvi,Option.bind_some,beq_self_eq_true,cond_true,imgSame_refl _ (show (viewApply v p q data).1.2.2.2.1.length≤2^60 by omega),viewRight_eq _ (show (viewApply v p q data).1.2.2.2.1.length<2^60 by omega) (show (viewApply v p q data).1.2.2.2.2.2.2.2.1.length<2^60 by omega),hok]
end Go.Ideal.Seat
