/- Cells are read by both sides. -/
import Derived.Test.YthhcpaffhbmoaaaPlja
set_option linter.unusedVariables false
set_option linter.unusedSimpArgs false
namespace Go.Ideal.Seat
open Go.Ideal.Plain
theorem Rd.then_assoc {α β γ:Type} (m:Rd α) (f:α→Rd β) (g:β→Rd γ):(m.then f).then g=m.then fun x=>(f x).then g:=by
 funext l
 unfold Rd.then
 cases m l<;>rfl
theorem Rd.then_pure {α β:Type} (x:α) (f:α→Rd β):(Rd.then (fun l=>.ok (x,l)) f)=f x:=by
 funext l
 rfl
theorem rNums_err:∀{n:Nat} {l:List Int} {e:Int},rNums n l = .error e→e≠0
 |0,l,e,h=>by simp[rNums]at h
 |n+1,l,e,h=>by
  simp only[rNums]at h
  cases hn:rNum l with
  |error e'=>
   rw[Rd.then_error hn]at h
   injection h with h;subst h
   exact(pNum_error hn).1
  |ok p=>
   rw[Rd.then_ok hn]at h
   cases hm:rNums n p.2 with
   |error e'=>rw[Rd.then_error hm]at h;injection h with h;subst h;exact rNums_err hm
   |ok q=>rw[Rd.then_ok hm]at h;cases h
theorem cellsLoop {S X Y P:Type} (n:Nat) (mk:P→List Cell→S) (rest:P→List Int) (good:P→Prop) (ok:List Cell→P→Y) (er:Y→Int→Prop) {F:S→Option (S⊕X)} {post:X→Option Y}
 (hstep:∀p out,good p→out.length<n→(∀e,rNums 5 (rest p) = .error e→∃x y,F (mk p out)=some (.inr x)∧post x=some y∧er y e)∧
   ∀q,rNums 5 (rest p) = .ok q→(badRun (n-out.length) out.getLast? (runOf q.1)=true→∃x y,F (mk p out)=some (.inr x)∧post x=some y∧er y 6)∧
    (badRun (n-out.length) out.getLast? (runOf q.1)=false→∃p',good p'∧rest p'=q.2∧F (mk p out)=some (.inl (mk p' (out++List.replicate (runOf q.1).1 (runOf q.1).2)))))
 (hend:∀p out,good p→out.length=n→∃x,F (mk p out)=some (.inr x)∧post x=some (ok out p)):
 ∀(f:Nat) p out,good p→out.length≤n→n-out.length≤f→
  (∀q,rCells f (n-out.length) out.getLast? (rest p) = .ok q→∃p',good p'∧rest p'=q.2∧(iterL F (mk p out)).bind post=some (ok (out++q.1) p'))∧
  (∀e,rCells f (n-out.length) out.getLast? (rest p) = .error e→e≠0∧∃y,(iterL F (mk p out)).bind post=some y∧er y e):=by
 intro f
 induction f with
 |zero=>
  intro p out hg hl hf
  have h0:n-out.length=0:=by omega
  obtain⟨x,e1,e2⟩:=hend p out hg (by omega)
  rw[h0]
  refine⟨fun q hq=>?_,fun e he=>?_⟩
  ·simp only[rCells,Except.ok.injEq]at hq
   subst hq
   exact⟨p,hg,rfl,by rw[iterL_inr e1,List.append_nil];exact e2⟩
  ·simp[rCells]at he
 |succ f ih=>
  intro p out hg hl hf
  by_cases hz:out.length=n
  ·have h0:n-out.length=0:=by omega
   obtain⟨x,e1,e2⟩:=hend p out hg (by omega)
   rw[h0]
   refine⟨fun q hq=>?_,fun e he=>?_⟩
   ·simp only[rCells,Except.ok.injEq]at hq
    subst hq
    exact⟨p,hg,rfl,by rw[iterL_inr e1,List.append_nil];exact e2⟩
   ·simp[rCells]at he
  ·obtain⟨m,hm⟩:∃m,n-out.length=m+1:=⟨n-out.length-1,by omega⟩
   obtain⟨s1,s2⟩:=hstep p out hg (by omega)
   rw[hm]at s2 ⊢
   simp only[rCells]
   cases hn:rNums 5 (rest p) with
   |error e'=>
    obtain⟨x,y,e1,e2,e3⟩:=s1 e' hn
    refine⟨fun q hq=>?_,fun e he=>?_⟩
    ·rw[Rd.then_error hn]at hq;cases hq
    ·rw[Rd.then_error hn]at he;injection he with he;subst he
     exact⟨rNums_err hn,y,by rw[iterL_inr e1];exact e2,e3⟩
   |ok v=>
    obtain⟨t1,t2⟩:=s2 v hn
    cases hb:badRun (m+1) out.getLast? (runOf v.1) with
    |true=>
     obtain⟨x,y,e1,e2,e3⟩:=t1 hb
     refine⟨fun q hq=>?_,fun e he=>?_⟩
     ·rw[Rd.then_ok hn,hb,if_pos rfl]at hq;cases hq
     ·rw[Rd.then_ok hn,hb,if_pos rfl]at he;injection he with he;subst he
      exact⟨by decide,y,by rw[iterL_inr e1];exact e2,e3⟩
    |false=>
     obtain⟨p',g1,g2,g3⟩:=t2 hb
     have hb':=hb
     unfold badRun at hb'
     simp only[Bool.or_eq_false_iff,beq_eq_false_iff_ne,decide_eq_false_iff_not]at hb'
     obtain⟨⟨⟨b1,b2⟩,_⟩,_⟩:=hb'
     have hlast:(out++List.replicate (runOf v.1).1 (runOf v.1).2).getLast? = some (runOf v.1).2:=by
      obtain⟨k,hk⟩:∃k,(runOf v.1).1=k+1:=⟨(runOf v.1).1-1,by omega⟩
      rw[hk,List.replicate_succ',←List.append_assoc,List.getLast?_concat]
     have hlen:n-(out++List.replicate (runOf v.1).1 (runOf v.1).2).length=m+1-(runOf v.1).1:=by rw[List.length_append,List.length_replicate];omega
     obtain⟨i1,i2⟩:=ih p' (out++List.replicate (runOf v.1).1 (runOf v.1).2) g1 (by rw[List.length_append,List.length_replicate];omega) (by rw[hlen];omega)
     rw[hlast,hlen,g2]at i1 i2
     rw[iterL_inl g3]
     refine⟨fun q hq=>?_,fun e he=>?_⟩
     ·rw[Rd.then_ok hn,hb]at hq
      simp only[Bool.false_eq_true,if_false]at hq
      obtain⟨q',h1,h2⟩:=Rd.then_eq_ok hq
      injection h2 with h2
      obtain⟨p'',j1,j2,j3⟩:=i1 q' h1
      refine⟨p'',j1,by rw[←h2];exact j2,?_⟩
      rw[j3,←h2,List.append_assoc]
     ·rw[Rd.then_ok hn,hb]at he
      simp only[Bool.false_eq_true,if_false]at he
      refine i2 e ?_
      cases hm':rCells f (m+1-(runOf v.1).1) (some (runOf v.1).2) v.2 with
      |ok q'=>rw[Rd.then_ok hm']at he;cases he
      |error e'=>rw[Rd.then_error hm']at he;injection he with he;rw[he]
theorem reps_eq (n:Nat) (c:Cell) (out:List Cell):upTo (fun _ (a:List Cell)=>a++[c]) n out=out++List.replicate n c:=by
 induction n with
 |zero=>simp[upTo]
 |succ n ih=>simp only[upTo,ih,List.replicate_succ',List.append_assoc]
def runI (vs:List Int):Int×Cell:=(vs.getD 0 0,IntKind.wrap .i32 (if vs.getD 1 0>1114111 then 0 else vs.getD 1 0),vs.getD 2 0,vs.getD 3 0,vs.getD 4 0)
theorem runs_run:Runs O_cell_run ((rNums 5).then fun vs l=>.ok (runI vs,l)):=by
 have h:=runs_then runs_num rNum_short (fun v0=>runs_then runs_num rNum_short (fun v1=>runs_then runs_num rNum_short (fun v2=>runs_then runs_num rNum_short (fun v3=>runs_map (f:=fun v4=>runI [v0,v1,v2,v3,v4])
  (O':=fun s=>(O_codec_Reader_Number s).bind fun r17=>((bif (decide (v1>1114111)) then (some 0) else (some v1)).bind fun v18=>(some (r17.1,(v0,((IntKind.wrap .i32 (v18)),(v2,(v3,r17.2)))))))) runs_num (fun s=>by
    by_cases h:v1>1114111<;>simp[h,runI])))))
 have e:(rNum.then fun v0=>rNum.then fun v1=>rNum.then fun v2=>rNum.then fun v3=>rNum.then fun v4 l=>.ok (runI [v0,v1,v2,v3,v4],l))=(rNums 5).then fun vs l=>.ok (runI vs,l):=by
  simp only[rNums,Rd.then_assoc,Rd.then_pure]
 rw[e]at h
 exact h
theorem runI_of {vs:List Int} (h:∀x∈vs,0≤x∧x≤72057594037927935):(runI vs).1=((runOf vs).1:Int)∧(runI vs).2=(runOf vs).2∧0≤vs.getD 0 0∧vs.getD 0 0≤72057594037927935∧0≤vs.getD 1 0∧vs.getD 1 0≤72057594037927935:=by
 have hb:∀i,0≤vs.getD i 0∧vs.getD i 0≤72057594037927935:=fun i=>by
  rw[List.getD_eq_getElem?_getD]
  cases he:vs[i]? with
  |none=>simp
  |some y=>exact h y (List.mem_of_getElem? he)
 have h0:=hb 0
 have h1:=hb 1
 refine⟨?_,?_,h0.1,h0.2,h1.1,h1.2⟩
 ·simp only[runI,runOf,Int.toNat_of_nonneg h0.1]
 ·simp only[runI,runOf]
  have:IntKind.wrap .i32 (if vs.getD 1 0>1114111 then 0 else vs.getD 1 0)=(if vs.getD 1 0>1114111 then 0 else vs.getD 1 0):=by
   split
   ·rfl
   ·exact Go.IntWalk.i32_in _ (by omega)
  rw[this]
theorem lastEq (out:List Cell) (c:Cell) (hl:out.length<2^60):(bif ((decide ((((out.length):Nat):Int)>0))==true) then (bif decide (0≤(IntKind.wrap .i64 ((((out.length):Nat):Int)-1))) then (bif decide (((IntKind.wrap .i64 ((((out.length):Nat):Int)-1))).toNat<out.length) then ((out[((IntKind.wrap .i64 ((((out.length):Nat):Int)-1))).toNat]?).bind fun e127=>(some ((e127.1==c.1)&&((e127.2.1==c.2.1)&&((e127.2.2.1==c.2.2.1)&&((e127.2.2.2==c.2.2.2)&&true)))))) else none) else none) else (some false))=some (decide (out.getLast? = some c)):=by
 cases hq:out.getLast? with
 |none=>
  have:out=[]:=by simpa using hq
  subst this
  simp
 |some x=>
  have hxm:=List.mem_of_getLast? hq
  have hpos:0<out.length:=List.length_pos_of_mem hxm
  have hpos':((out.length:Nat):Int)>0:=by omega
  have hg:out[out.length-1]? = some x:=by rw[←hq,List.getLast?_eq_getElem?]
  have hi1:IntKind.i64.wrap ((out.length:Int)-1)=((out.length-1:Nat):Int):=by rw[w64 (by omega) (by omega)];omega
  have hlt:out.length-1<out.length:=by omega
  simp only[hpos',decide_true,beq_self_eq_true,cond_true,hi1,Int.natCast_nonneg,Int.toNat_natCast,hlt,hg,Option.bind_some,cellEq,Option.some.injEq]
theorem badEq (n:Nat) (out:List Cell) (x:Rn) (ho:out.length<n) (hn:n≤2^40):(bif ((((x.1:Nat):Int)==0)==false) then (bif ((decide (((x.1:Nat):Int)>(((n-out.length:Nat)):Int)))==false) then (bif ((!cellOk x.2)==false) then some (decide (out.getLast? = some x.2)) else (some true)) else (some true)) else (some true))=some (badRun (n-out.length) out.getLast? x):=by
 unfold badRun
 have e1:(((x.1:Nat):Int)==0)=(x.1==0):=by rw[Bool.eq_iff_iff];simp
 have e2:decide (((x.1:Nat):Int)>(((n-out.length:Nat)):Int))=decide (n-out.length<x.1):=by rw[decide_eq_decide];omega
 rw[e1,e2]
 cases (x.1==0)<;>cases decide (n-out.length<x.1)<;>cases cellOk x.2<;>simp
theorem nums_bound {n:Nat} {l:List Int} {p:List Int×List Int} (hl:bytesIn l) (h:rNums n l = .ok p):∀x∈p.1,0≤x∧x≤72057594037927935:=by
 obtain⟨ns,e1,e2,e3,e4⟩:=rNums_back (vs:=p.1) (r:=p.2) hl h
 intro x hx
 rw[e2]at hx
 obtain⟨m,hm,rfl⟩:=List.mem_map.1 hx
 have:=e3 m hm
 omega
theorem nums_right {n:Nat} {l:List Int} {p:List Int×List Int} (hl:bytesIn l) (h:rNums n l = .ok p):bytesIn p.2∧p.1.length=n:=by
 obtain⟨ns,e1,e2,e3,e4⟩:=rNums_back (vs:=p.1) (r:=p.2) hl h
 rw[e4]at hl
 exact⟨bytesIn_right hl,by rw[e2,List.length_map,e1]⟩
theorem cellRead_eq (b:List Int) (hb:bytesIn b) (n:Nat) (hn:n≤2^36):
 (∀q,rCells n n none b = .ok q→bytesIn q.2∧O_cell_Read ((b,0),(n:Int))=some ((q.2,0),q.1))∧(∀e,rCells n n none b = .error e→e≠0∧∃b',O_cell_Read ((b,0),(n:Int))=some ((b',e),[])):=by
 have key:(∀q,rCells n (n-([]:List Cell).length) ([]:List Cell).getLast? (id b) = .ok q→∃p',bytesIn p'∧id p'=q.2∧O_cell_Read ((b,0),(n:Int))=some ((p',0),[]++q.1))∧
  (∀e,rCells n (n-([]:List Cell).length) ([]:List Cell).getLast? (id b) = .error e→e≠0∧∃y,O_cell_Read ((b,0),(n:Int))=some y∧∃b',y=((b',e),[])):=by
  unfold O_cell_Read
  refine cellsLoop n (fun(p:List Int) (out:List Cell)=>(p,(0:Int),out)) id bytesIn (fun out p=>((p,0),out)) (fun y e=>∃b',y=((b',e),[])) (fun p out hp ho=>⟨fun e he=>?_,fun q hq=>⟨fun hbad=>?_,fun hbad=>?_⟩⟩) (fun p out hp ho=>?_) n b [] hb (by simp) (by simp)
  ·have ho':(out.length:Int)<(n:Int):=by omega
   have he:rNums 5 p = .error e:=he
   obtain⟨k1,b',v,k2⟩:=runs_run.error p hp e (by rw[Rd.then_error he])
   have he':(e != 0)=true:=by simpa using k1
   simp only[ho',decide_true,cond_true,k2,Option.bind_some,O_codec_Reader_Err,he']
   exact⟨_,_,rfl,rfl,_,rfl⟩
  all_goals
   first
   |have ho':(out.length:Int)<(n:Int):=by omega
    have hq:rNums 5 p = .ok q:=hq
    have hr:=runs_run.ok p hp (runI q.1,q.2) (by rw[Rd.then_ok hq])
    obtain⟨i1,i2,i3⟩:=runI_of (nums_bound hp hq)
    have hw:IntKind.wrap .i64 ((n:Int)-(out.length:Int))=((n-out.length:Nat):Int):=by rw[w64 (by omega) (by omega)];omega
    have hbe:=badEq n out (runOf q.1) ho (by omega)
    have hle:=lastEq out (runOf q.1).2 (by omega)
    simp only[ho',decide_true,cond_true,hr,Option.bind_some,O_codec_Reader_Err,bne_self_eq_false,cond_false,i1,i2,hw,cellRight_eq,hle,hbe,hbad]
   |skip
  ·simp only[fail_ok,Option.bind_some]
   exact⟨_,_,rfl,rfl,_,rfl⟩
  ·refine⟨q.2,(nums_right hp hq).1,rfl,?_⟩
   have hb':=hbad
   unfold badRun at hb'
   simp only[Bool.or_eq_false_iff,beq_eq_false_iff_ne,decide_eq_false_iff_not]at hb'
   obtain⟨⟨⟨b1,b2⟩,_⟩,_⟩:=hb'
   rw[countLoop (runOf q.1).1 (fun(a:List Cell) i=>(a,i)) (fun _ a=>a++[(runOf q.1).2]) (fun i a=>a.length=out.length+i) (fin:=fun a=>(a,((runOf q.1).1:Int),false)) (by simp) (fun a i hi hv=>?_) (fun a hv=>by simp)]
   ·simp only[reps_eq,Option.bind_some]
   ·have hi':(i:Int)<((runOf q.1).1:Int):=by omega
    have hm:(a.length+1)*(32+1)≤most:=by unfold most;omega
    simp only[hi',decide_true,cond_true,List.length_cons,List.length_nil,Nat.zero_add,hm,wsucc (show i<2^62 by omega)]
    exact⟨trivial,by rw[List.length_append];simp;omega⟩
  ·have ho':¬(out.length:Int)<(n:Int):=by omega
   simp only[ho',decide_false,cond_false]
   exact⟨_,rfl,rfl⟩
 obtain⟨k1,k2⟩:=key
 simp only[List.length_nil,Nat.sub_zero,List.getLast?_nil,id_eq]at k1 k2
 refine⟨fun q hq=>?_,fun e he=>?_⟩
 ·obtain⟨p',g1,g2,g3⟩:=k1 q hq
  subst g2
  exact⟨g1,g3⟩
 ·obtain⟨h0,y,h1,b',rfl⟩:=k2 e he
  exact⟨h0,b',h1⟩
end Go.Ideal.Seat
set_option linter.unusedVariables false
set_option linter.unusedSimpArgs false
namespace Go.Ideal.Seat
open Go.Ideal.Plain
def badLen (vs:List Int):Bool:=decide (vs.getD 2 0=0∨vs.getD 2 0>132)
def rSpan:Rd Sp:=(rNums 3).then fun vs=>if badLen vs=true then fun _=>.error 6 else (rCells (vs.getD 2 0).toNat (vs.getD 2 0).toNat none).then fun cs l=>.ok ((vs.getD 0 0,vs.getD 1 0,cs),l)
def rSpans:Nat→Rd (List Sp)
 |0=>fun l=>.ok ([],l)
 |n+1=>rSpan.then fun s=>(rSpans n).then fun r l=>.ok (s::r,l)
def rTail:Rd (Int×Int×Bool×List Int×Int):=rNum.then fun a=>rNum.then fun b=>rBool.then fun h=>(rText 64).then fun t=>rNum.then fun n l=>.ok ((a,b,h,t,n),l)
def toB (l:List Int):List UInt8:=l.map fun n=>UInt8.ofNat n.toNat
def rAll:Rd (Int×Int×List Sp×Int×Int×Bool×List Int×Int):=(rNums 3).then fun vs=>(rSpans (vs.getD 2 0).toNat).then fun sp=>rTail.then fun x l=>.ok ((vs.getD 0 0,vs.getD 1 0,sp,x),l)
def asD (x:Int×Int×List Sp×Int×Int×Bool×List Int×Int):Dlt:=(x.1,x.2.1,x.2.2.1,x.2.2.2.1,x.2.2.2.2.1,x.2.2.2.2.2.1,toB x.2.2.2.2.2.2.1,x.2.2.2.2.2.2.2)
noncomputable def rDelta (b:List Int):Except Int Dlt:=match rAll b with
 |.error e=>.error e
 |.ok p=>if p.2=[] then if deltaOk (asD p.1)=true then .ok (asD p.1) else .error 6 else .error 5
def encSpan (s:Sp):List Int:=numB s.1.toNat++(numB s.2.1.toNat++(numB s.2.2.length++encCells s.2.2))
def encDelta (d:Dlt):List Int:=numB d.1.toNat++(numB d.2.1.toNat++(numB d.2.2.1.length++(d.2.2.1.flatMap encSpan++(numB d.2.2.2.1.toNat++(numB d.2.2.2.2.1.toNat++((if d.2.2.2.2.2.1=true then 1 else 0)::(numB d.2.2.2.2.2.2.1.length++(ints d.2.2.2.2.2.2.1++numB d.2.2.2.2.2.2.2.toNat))))))))
def spanFine (s:Sp):Prop:=0≤s.1∧s.1≤72057594037927935∧0≤s.2.1∧s.2.1≤72057594037927935∧1≤s.2.2.length∧s.2.2.length≤132∧∀c∈s.2.2,cellOk c=true
theorem rSpan_enc {s:Sp} (h:spanFine s) (r:List Int):rSpan (encSpan s++r) = .ok (s,r):=by
 obtain⟨h1,h2,h3,h4,h5,h6,h7⟩:=h
 have hn:=rNums_numB [s.1.toNat,s.2.1.toNat,s.2.2.length] (encCells s.2.2++r) (fun x hx=>by simp at hx;omega)
 have e:encSpan s++r=[s.1.toNat,s.2.1.toNat,s.2.2.length].flatMap numB++(encCells s.2.2++r):=by unfold encSpan;simp
 unfold rSpan
 rw[e,Rd.then_ok (m:=rNums 3) hn]
 have hb:badLen ([s.1.toNat,s.2.1.toNat,s.2.2.length].map fun(n:Nat)=>(n:Int))=false:=by
  unfold badLen
  simp only[List.map_cons,List.map_nil,List.getD_cons_zero,List.getD_cons_succ,decide_eq_false_iff_not]
  omega
 obtain⟨r1,r2⟩:=runs_cells h7 none (by simp)
 have hc:rCells s.2.2.length s.2.2.length none (encCells s.2.2++r) = .ok (s.2.2,r):=by
  have:=rCells_enc (runsK 0 s.2.2) s.2.2.length none r r1 (by rw[r2];exact Nat.le_refl _) (by rw[r2];omega)
  rw[r2]at this
  exact this
 simp only[List.map_cons,List.map_nil]at hb
 simp only[List.map_cons,List.map_nil,hb,Bool.false_eq_true,if_false,List.getD_cons_zero,List.getD_cons_succ,Int.toNat_natCast]
 rw[Rd.then_ok hc]
 simp only[Int.toNat_of_nonneg h1,Int.toNat_of_nonneg h3]
theorem rSpan_back {l r:List Int} {s:Sp} (hl:bytesIn l) (h:rSpan l = .ok (s,r)):spanFine s∧l=encSpan s++r:=by
 unfold rSpan at h
 obtain⟨p,h1,h2⟩:=Rd.then_eq_ok h
 obtain⟨ns,e1,e2,e3,e4⟩:=rNums_back (vs:=p.1) (r:=p.2) hl h1
 match ns,e1 with
 |[n0,n1,n2],_=>
  rw[e2]at h2
  split at h2
  ·cases h2
  ·rename_i hb
   unfold badLen at hb
   simp only[List.map_cons,List.map_nil,List.getD_cons_zero,List.getD_cons_succ,decide_eq_true_eq,Int.toNat_natCast]at hb h2
   obtain⟨q,h3,h4⟩:=Rd.then_eq_ok h2
   rw[e4]at hl
   obtain⟨x,g1,g2,g3,g4⟩:=rCells_back _ _ none p.2 q.2 q.1 (bytesIn_right hl) h3
   simp only[Except.ok.injEq,Prod.mk.injEq]at h4
   obtain⟨rfl,rfl⟩:=h4
   have k0:=e3 n0 (by simp)
   have k1:=e3 n1 (by simp)
   have hx:=(runs_len g1).2
   refine⟨⟨by simp,by simp only;omega,by simp,by simp only;omega,by simp only;omega,by simp only;omega,fun c hc=>?_⟩,?_⟩
   ·rw[g2]at hc
    unfold expand at hc
    obtain⟨y,hy,hcy⟩:=List.mem_flatMap.1 hc
    rw[List.eq_of_mem_replicate hcy]
    exact(hx y hy).2
   ·rw[e4,g4]
    unfold encSpan encCells
    have hxl:(expand x).length=n2:=by rw[←g2];exact g3
    simp only[Int.toNat_natCast,g2,runsK_expand x none g1,hxl]
    simp
theorem rSpans_enc:∀(l:List Sp) (r:List Int),(∀s∈l,spanFine s)→rSpans l.length (l.flatMap encSpan++r) = .ok (l,r)
 |[],r,_=>rfl
 |s::l,r,h=>by
  simp only[List.length_cons,rSpans,List.flatMap_cons,List.append_assoc]
  rw[Rd.then_ok (rSpan_enc (h s (by simp)) _),Rd.then_ok (rSpans_enc l r fun t ht=>h t (by simp[ht]))]
theorem encSpan_pos (s:Sp):1≤(encSpan s).length:=by
 have:=numB_pos s.1.toNat
 unfold encSpan
 rw[List.length_append]
 omega
theorem rSpans_back:∀{n:Nat} {l r:List Int} {sp:List Sp},bytesIn l→rSpans n l = .ok (sp,r)→(∀s∈sp,spanFine s)∧sp.length=n∧l=sp.flatMap encSpan++r
 |0,l,r,sp,hl,h=>by
  simp only[rSpans,Except.ok.injEq,Prod.mk.injEq]at h
  obtain⟨rfl,rfl⟩:=h
  simp
 |n+1,l,r,sp,hl,h=>by
  simp only[rSpans]at h
  obtain⟨p,h1,h2⟩:=Rd.then_eq_ok h
  obtain⟨q,h3,h4⟩:=Rd.then_eq_ok h2
  obtain⟨f1,f2⟩:=rSpan_back (s:=p.1) (r:=p.2) hl h1
  rw[f2]at hl
  obtain⟨i1,i2,i3⟩:=rSpans_back (sp:=q.1) (r:=q.2) (bytesIn_right hl) h3
  simp only[Except.ok.injEq,Prod.mk.injEq]at h4
  obtain⟨rfl,rfl⟩:=h4
  refine⟨fun s hs=>?_,by simp[i2],by rw[f2,i3];simp⟩
  rcases List.mem_cons.1 hs with rfl|hs
  ·exact f1
  ·exact i1 s hs
theorem toB_ints (l:List UInt8):toB (ints l)=l:=ints_back l
theorem ints_toB {l:List Int} (h:∀x∈l,0≤x∧x<256):ints (toB l)=l:=by
 unfold ints toB
 rw[List.map_map]
 conv=>rhs;rw[←List.map_id l]
 refine List.map_congr_left fun a ha=>?_
 have:=h a ha
 simp only[Function.comp_apply,UInt8.toNat_ofNat',id_eq]
 omega
theorem ints_bytes (l:List UInt8):∀x∈ints l,0≤x∧x<256:=fun x hx=>by
 obtain⟨c,_,rfl⟩:=List.mem_map.1 hx
 have:=u8lt c
 omega
def tailFine (x:Int×Int×Bool×List Int×Int):Prop:=0≤x.1∧x.1≤72057594037927935∧0≤x.2.1∧x.2.1≤72057594037927935∧x.2.2.2.1.length≤64∧0≤x.2.2.2.2∧x.2.2.2.2≤72057594037927935
def encTail (x:Int×Int×Bool×List Int×Int):List Int:=numB x.1.toNat++(numB x.2.1.toNat++((if x.2.2.1=true then 1 else 0)::(numB x.2.2.2.1.length++(x.2.2.2.1++numB x.2.2.2.2.toNat))))
theorem rBool_enc (h:Bool) (r:List Int):rBool ((if h=true then 1 else 0)::r) = .ok (h,r):=by
 unfold rBool
 cases h<;>simp
theorem rText_enc {t:List Int} {m:Nat} (ht:t.length≤m) (hm:m≤2^40) (r:List Int):rText m (numB t.length++(t++r)) = .ok (t,r):=by
 unfold rText
 rw[Rd.then_ok (rNum_numB (by omega) _)]
 simp only
 rw[if_neg (by omega),if_neg (by rw[List.length_append];omega),Int.toNat_natCast,List.take_left,List.drop_left]
theorem rTail_enc {x:Int×Int×Bool×List Int×Int} (h:tailFine x) (r:List Int):rTail (encTail x++r) = .ok (x,r):=by
 obtain⟨h1,h2,h3,h4,h5,h6,h7⟩:=h
 unfold rTail encTail
 simp only[List.append_assoc,List.cons_append]
 rw[Rd.then_ok (rNum_numB (by omega) _),Rd.then_ok (rNum_numB (by omega) _),Rd.then_ok (rBool_enc _ _),Rd.then_ok (rText_enc h5 (by omega) _),Rd.then_ok (rNum_numB (by omega) _)]
 simp only[Int.toNat_of_nonneg h1,Int.toNat_of_nonneg h3,Int.toNat_of_nonneg h6]
theorem rBool_back {l r:List Int} {h:Bool} (hl:bytesIn l) (e:rBool l = .ok (h,r)):l=(if h=true then 1 else 0)::r:=by
 unfold rBool at e
 cases l with
 |nil=>cases e
 |cons x l=>
  simp only at e
  split at e
  ·cases e
  ·rename_i hx
   have:=hl.1 x (by simp)
   simp only[Except.ok.injEq,Prod.mk.injEq]at e
   obtain⟨rfl,rfl⟩:=e
   by_cases h1:x=1
   ·simp[h1]
   ·have:x=0:=by omega
    simp[this]
theorem rText_back {l r t:List Int} {m:Nat} (hl:bytesIn l) (e:rText m l = .ok (t,r)):t.length≤m∧l=numB t.length++(t++r):=by
 unfold rText at e
 obtain⟨p,h1,h2⟩:=Rd.then_eq_ok e
 obtain⟨n,e1,e2,e3⟩:=rNum_back (v:=p.1) (r:=p.2) hl h1
 rw[e1]at h2
 split at h2
 ·cases h2
 ·split at h2
  ·cases h2
  ·rename_i c1 c2
   simp only[Except.ok.injEq,Prod.mk.injEq,Int.toNat_natCast]at h2
   obtain⟨rfl,rfl⟩:=h2
   have hlen:(p.2.take n).length=n:=by rw[List.length_take];omega
   rw[hlen,List.take_append_drop]
   exact⟨by omega,e3⟩
theorem rTail_back {l r:List Int} {x:Int×Int×Bool×List Int×Int} (hl:bytesIn l) (e:rTail l = .ok (x,r)):tailFine x∧l=encTail x++r∧∀y∈x.2.2.2.1,0≤y∧y<256:=by
 unfold rTail at e
 obtain⟨p1,a1,e⟩:=Rd.then_eq_ok e
 obtain⟨p2,a2,e⟩:=Rd.then_eq_ok e
 obtain⟨p3,a3,e⟩:=Rd.then_eq_ok e
 obtain⟨p4,a4,e⟩:=Rd.then_eq_ok e
 obtain⟨p5,a5,e⟩:=Rd.then_eq_ok e
 obtain⟨n1,b1,c1,d1⟩:=rNum_back (v:=p1.1) (r:=p1.2) hl a1
 have hl1:=bytesIn_right (d1▸hl)
 obtain⟨n2,b2,c2,d2⟩:=rNum_back (v:=p2.1) (r:=p2.2) hl1 a2
 have hl2:=bytesIn_right (d2▸hl1)
 have d3:=rBool_back (h:=p3.1) (r:=p3.2) hl2 a3
 have hl3:=(bytesIn_cons (d3▸hl2)).1
 obtain⟨c4,d4⟩:=rText_back (t:=p4.1) (r:=p4.2) hl3 a4
 have hl4:=bytesIn_right (d4▸hl3)
 obtain⟨n5,b5,c5,d5⟩:=rNum_back (v:=p5.1) (r:=p5.2) (bytesIn_right hl4) a5
 simp only[Except.ok.injEq,Prod.mk.injEq]at e
 obtain⟨rfl,rfl⟩:=e
 refine⟨⟨by simp only;omega,by simp only;omega,by simp only;omega,by simp only;omega,c4,by simp only;omega,by simp only;omega⟩,?_,fun y hy=>hl4.1 y (by simp[hy])⟩
 unfold encTail
 rw[d1,d2,d3,d4,d5,b1,b2,b5]
 simp
theorem delta_fine {d:Dlt} (h:deltaOk d=true):(0≤d.1∧d.1≤60∧0≤d.2.1∧d.2.1≤132)∧(∀s∈d.2.2.1,spanFine s)∧0≤d.2.2.2.1∧d.2.2.2.1≤60∧0≤d.2.2.2.2.1∧d.2.2.2.2.1≤132∧d.2.2.2.2.2.2.1.length≤64∧0≤d.2.2.2.2.2.2.2∧d.2.2.2.2.2.2.2≤1073741824:=by
 unfold deltaOk at h
 simp only[Bool.and_eq_true]at h
 obtain⟨⟨hs,hi⟩,hsp⟩:=h
 have hw:=spansOk_within hsp
 have hs':=hs
 unfold sizeOk at hs'
 unfold sideOk titleOk at hi
 simp only[Bool.and_eq_true,decide_eq_true_eq]at hs' hi
 refine⟨by omega,fun s hm=>?_,by omega,by omega,by omega,by omega,hi.1.2.1.1,by omega,by omega⟩
 have:=hw s hm
 unfold within inRow at this
 simp only[Bool.and_eq_true,decide_eq_true_eq,List.all_eq_true]at this
 exact⟨by omega,by omega,by omega,by omega,by omega,by omega,this.2⟩
theorem rDelta_enc {d:Dlt} (h:deltaOk d=true) (hl:d.2.2.1.length≤2^36):rDelta (encDelta d) = .ok d:=by
 obtain⟨⟨a1,a2,a3,a4⟩,a5,a6,a7,a8,a9,a10,a11,a12⟩:=delta_fine h
 have e:encDelta d=[d.1.toNat,d.2.1.toNat,d.2.2.1.length].flatMap numB++(d.2.2.1.flatMap encSpan++(encTail (d.2.2.2.1,d.2.2.2.2.1,d.2.2.2.2.2.1,ints d.2.2.2.2.2.2.1,d.2.2.2.2.2.2.2)++[])):=by
  unfold encDelta encTail
  simp[ints]
 have hn:=rNums_numB [d.1.toNat,d.2.1.toNat,d.2.2.1.length] (d.2.2.1.flatMap encSpan++(encTail (d.2.2.2.1,d.2.2.2.2.1,d.2.2.2.2.2.1,ints d.2.2.2.2.2.2.1,d.2.2.2.2.2.2.2)++[])) (fun x hx=>by simp at hx;omega)
 have ht:=rTail_enc (x:=(d.2.2.2.1,d.2.2.2.2.1,d.2.2.2.2.2.1,ints d.2.2.2.2.2.2.1,d.2.2.2.2.2.2.2)) ⟨a6,by simp only;omega,a8,by simp only;omega,by rw[ints_len];exact a10,a11,by simp only;omega⟩ []
 have key:rAll (encDelta d) = .ok ((d.1,d.2.1,d.2.2.1,d.2.2.2.1,d.2.2.2.2.1,d.2.2.2.2.2.1,ints d.2.2.2.2.2.2.1,d.2.2.2.2.2.2.2),[]):=by
  unfold rAll
  rw[e,Rd.then_ok (m:=rNums 3) hn]
  simp only[List.map_cons,List.map_nil,List.getD_cons_zero,List.getD_cons_succ,Int.toNat_natCast]
  rw[Rd.then_ok (rSpans_enc d.2.2.1 _ a5),Rd.then_ok ht]
  simp only[Int.toNat_of_nonneg a1,Int.toNat_of_nonneg a3]
 unfold rDelta
 rw[key]
 simp only[asD,toB_ints,if_true]
 rw[if_pos h]
theorem rDelta_back {b:List Int} {d:Dlt} (hb:bytesIn b) (h:rDelta b = .ok d):b=encDelta d∧deltaOk d=true:=by
 unfold rDelta at h
 split at h
 ·cases h
 ·rename_i p hp
  split at h
  ·rename_i hr
   split at h
   ·rename_i hok
    injection h with h;subst h
    refine⟨?_,hok⟩
    unfold rAll at hp
    obtain⟨q,a1,e⟩:=Rd.then_eq_ok hp
    obtain⟨sp,a2,e⟩:=Rd.then_eq_ok e
    obtain⟨x,a3,e⟩:=Rd.then_eq_ok e
    obtain⟨ns,e1,e2,e3,e4⟩:=rNums_back (vs:=q.1) (r:=q.2) hb a1
    have hb1:=bytesIn_right (e4▸hb)
    obtain⟨f1,f2,f3⟩:=rSpans_back (sp:=sp.1) (r:=sp.2) hb1 a2
    have hb2:=bytesIn_right (f3▸hb1)
    obtain⟨g1,g2,g3⟩:=rTail_back (x:=x.1) (r:=x.2) hb2 a3
    simp only[Except.ok.injEq]at e
    subst e
    simp only at hr
    match ns,e1 with
    |[n0,n1,n2],_=>
     rw[e2]at f2
     simp only[List.map_cons,List.map_nil,List.getD_cons_succ,List.getD_cons_zero,Int.toNat_natCast]at f2
     rw[e4,f3,g2,hr,e2]
     unfold encDelta encTail asD
     simp only[List.map_cons,List.map_nil,List.getD_cons_succ,List.getD_cons_zero,Int.toNat_natCast,f2,ints_toB g3]
     have:(toB x.1.2.2.2.1).length=x.1.2.2.2.1.length:=by simp[toB]
     simp[this]
   ·cases h
  ·cases h
end Go.Ideal.Seat
set_option linter.unusedVariables false
set_option linter.unusedSimpArgs false
namespace Go.Ideal.Seat
open Go.Ideal.Plain
theorem nth {n:Nat} {l:List Int} {p:List Int×List Int} (hl:bytesIn l) (h:rNums n l = .ok p):∀i,i<n→p.1[i]? = some (p.1.getD i 0)∧0≤p.1.getD i 0∧p.1.getD i 0≤72057594037927935:=fun i hi=>by
 have hlen:=(nums_right hl h).2
 have hg:p.1[i]? = some p.1[i]:=List.getElem?_eq_getElem (by omega)
 have hd:p.1.getD i 0=p.1[i]:=by rw[List.getD_eq_getElem?_getD,hg];rfl
 rw[hd]
 exact⟨hg,nums_bound hl h _ (List.getElem_mem _)⟩
theorem rSpan_short:Short rSpan:=fun l p hl h=>by
 obtain⟨_,e⟩:=rSpan_back (s:=p.1) (r:=p.2) hl h
 exact⟨_,e,encSpan_pos _⟩
theorem rSpan_err {l:List Int} {e:Int} (hl:bytesIn l) (h:rSpan l = .error e):e≠0:=by
 unfold rSpan at h
 cases hn:rNums 3 l with
 |error e'=>rw[Rd.then_error hn]at h;injection h with h;subst h;exact rNums_err hn
 |ok p=>
  rw[Rd.then_ok hn]at h
  split at h
  ·injection h with h;omega
  ·rename_i hb
   have hp:=(nums_right hl hn).1
   have h2:=nth hl hn 2 (by omega)
   unfold badLen at hb
   simp only[decide_eq_true_eq]at hb
   cases hc:rCells (p.1.getD 2 0).toNat (p.1.getD 2 0).toNat none p.2 with
   |error e'=>
    rw[Rd.then_error hc]at h;injection h with h;subst h
    exact((cellRead_eq p.2 hp _ (by omega)).2 _ hc).1
   |ok q=>rw[Rd.then_ok hc]at h;cases h
noncomputable def spanRest (v0 v1 v2:Int) (s:List Int×Int):Option ((List Int×Int)×Sp):=((((O_codec_Reader_Err s).bind fun r38=>(bif ((r38.2==0)==true) then (bif ((v2==0)==false) then (some (r38.1.1,(r38.1.2,(decide (v2>132))))) else (some (r38.1.1,(r38.1.2,true)))) else (some (r38.1.1,(r38.1.2,false))))).bind fun v39=>(bif v39.2.2 then ((O_codec_Reader_Fail ((v39.1,v39.2.1),6)).bind fun r40=>(some r40)) else (some (v39.1,v39.2.1)))).bind fun v41=>((O_codec_Reader_Err v41).bind fun r42=>(bif (r42.2==0) then ((O_cell_Read (r42.1,v2)).bind fun r43=>(some (r43.1,(v0,(v1,r43.2))))) else (some (r42.1,(v0,(v1,([]:List Cell))))))))
theorem rest_bad (v0 v1 v2:Int) (b:List Int) {e:Int} (he:e≠0):spanRest v0 v1 v2 (b,e)=some ((b,e),(v0,v1,[])):=by
 have h1:(e==0)=false:=by simpa using he
 unfold spanRest O_codec_Reader_Err
 simp only[Option.bind_some,h1,Bool.false_beq,Bool.not_true,cond_false]
theorem span_def (s:List Int×Int):O_delta_span s=(O_codec_Reader_Number s).bind fun r35=>(O_codec_Reader_Number r35.1).bind fun r36=>(O_codec_Reader_Number r36.1).bind fun r37=>spanRest r35.2 r36.2 r37.2 r37.1:=rfl
noncomputable def three (s:List Int×Int):Option ((List Int×Int)×List Int):=(O_codec_Reader_Number s).bind fun r35=>(O_codec_Reader_Number r35.1).bind fun r36=>(O_codec_Reader_Number r36.1).bind fun r37=>some (r37.1,[r35.2,r36.2,r37.2])
theorem runs_three:Runs three (rNums 3):=by
 have h:=runs_then runs_num rNum_short (fun v0=>runs_then runs_num rNum_short (fun v1=>runs_map (f:=fun v2=>[v0,v1,v2]) (O':=fun s=>(O_codec_Reader_Number s).bind fun r37=>some (r37.1,[v0,v1,r37.2])) runs_num (fun s=>rfl)))
 have e:(rNum.then fun v0=>rNum.then fun v1=>rNum.then fun v2 l=>.ok ([v0,v1,v2],l))=rNums 3:=by
  simp only[rNums,Rd.then_assoc,Rd.then_pure]
 rw[e]at h
 exact h
theorem three_some {s:List Int×Int} {y:(List Int×Int)×List Int} (h:three s=some y):∃r1 r2 r3,O_codec_Reader_Number s=some r1∧O_codec_Reader_Number r1.1=some r2∧O_codec_Reader_Number r2.1=some r3∧y=(r3.1,[r1.2,r2.2,r3.2]):=by
 unfold three at h
 obtain⟨r1,h1,h⟩:=bind_some'.1 h
 obtain⟨r2,h2,h⟩:=bind_some'.1 h
 obtain⟨r3,h3,h⟩:=bind_some'.1 h
 injection h with h
 exact⟨r1,r2,r3,h1,h2,h3,h.symm⟩
theorem runs_span:Runs O_delta_span rSpan where
 ok b hb p h:=by
  unfold rSpan at h
  obtain⟨q,h1,h2⟩:=Rd.then_eq_ok h
  obtain⟨r1,r2,r3,e1,e2,e3,e4⟩:=three_some (runs_three.ok b hb q h1)
  simp only[Prod.mk.injEq]at e4
  have n2:=nth hb h1 2 (by omega)
  split at h2
  ·cases h2
  ·rename_i hbad
   unfold badLen at hbad
   simp only[decide_eq_true_eq]at hbad
   obtain⟨q2,h3,h4⟩:=Rd.then_eq_ok h2
   have hq:=(nums_right hb h1).1
   have hc:=((cellRead_eq q.2 hq (q.1.getD 2 0).toNat (by omega)).1 q2 h3).2
   rw[Int.toNat_of_nonneg n2.2.1]at hc
   injection h4 with h4
   rw[span_def]
   simp only[e1,e2,e3,Option.bind_some,←e4.1]
   have g0:r1.2=q.1.getD 0 0:=by rw[e4.2];rfl
   have g1:r2.2=q.1.getD 1 0:=by rw[e4.2];rfl
   have g2:r3.2=q.1.getD 2 0:=by rw[e4.2];rfl
   rw[g0,g1,g2]
   have c1:(q.1.getD 2 0==0)=false:=beq_eq_false_iff_ne.2 (by omega)
   have c2:¬q.1.getD 2 0>132:=by omega
   unfold spanRest O_codec_Reader_Err
   simp only[Option.bind_some,beq_self_eq_true,cond_true,c1,c2,decide_false,cond_false,hc]
   rw[←h4]
 error b hb e h:=by
  refine⟨rSpan_err hb h,?_⟩
  unfold rSpan at h
  cases hn:rNums 3 b with
  |error e'=>
   rw[Rd.then_error hn]at h;injection h with h;subst h
   obtain⟨k1,b',v,k2⟩:=runs_three.error b hb _ hn
   obtain⟨r1,r2,r3,e1,e2,e3,e4⟩:=three_some k2
   simp only[Prod.mk.injEq]at e4
   rw[span_def]
   simp only[e1,e2,e3,Option.bind_some,←e4.1,rest_bad _ _ _ b' k1]
   exact⟨_,_,rfl⟩
  |ok q=>
   rw[Rd.then_ok hn]at h
   obtain⟨r1,r2,r3,e1,e2,e3,e4⟩:=three_some (runs_three.ok b hb q hn)
   simp only[Prod.mk.injEq]at e4
   have n2:=nth hb hn 2 (by omega)
   have hq:=(nums_right hb hn).1
   have g2:r3.2=q.1.getD 2 0:=by rw[e4.2];rfl
   rw[span_def]
   simp only[e1,e2,e3,Option.bind_some,←e4.1,g2]
   split at h
   ·rename_i hbad
    unfold badLen at hbad
    simp only[decide_eq_true_eq]at hbad
    injection h with h
    have key:(bif ((q.1.getD 2 0==0)==false) then (some (q.2,((0:Int),decide (q.1.getD 2 0>132)))) else some (q.2,(0,true)))=some (q.2,(0,true)):=by
     generalize q.1.getD 2 0=v at hbad
     by_cases c1:v=0
     ·simp[c1]
     ·have c1':(v==0)=false:=beq_eq_false_iff_ne.2 c1
      have c2:v>132:=by omega
      simp[c1',c2]
    unfold spanRest O_codec_Reader_Err
    simp only[Option.bind_some,beq_self_eq_true,cond_true,key,fail_ok]
    subst h
    exact⟨_,_,rfl⟩
   ·rename_i hbad
    unfold badLen at hbad
    simp only[decide_eq_true_eq]at hbad
    cases hc:rCells (q.1.getD 2 0).toNat (q.1.getD 2 0).toNat none q.2 with
    |ok q2=>rw[Rd.then_ok hc]at h;cases h
    |error e'=>
     rw[Rd.then_error hc]at h;injection h with h;subst h
     obtain⟨k1,b',k2⟩:=(cellRead_eq q.2 hq _ (by omega)).2 _ hc
     rw[Int.toNat_of_nonneg n2.2.1]at k2
     have c1:(q.1.getD 2 0==0)=false:=beq_eq_false_iff_ne.2 (by omega)
     have c2:¬q.1.getD 2 0>132:=by omega
     unfold spanRest O_codec_Reader_Err
     simp only[Option.bind_some,beq_self_eq_true,cond_true,c1,c2,decide_false,cond_false,k2]
     exact⟨_,_,rfl⟩
 bad b e he:=by
  rw[span_def]
  simp only[rNum_bad b he,Option.bind_some,rest_bad _ _ _ b he]
  exact⟨_,rfl⟩
theorem spansLoop {S X P:Type} (mk:P→Int→List Sp→Nat→S) (fin:P→Int→List Sp→Nat→X) (rest:P→List Int) (good:P→Prop) {F:S→Option (S⊕X)} (hg:∀p,good p→bytesIn (rest p))
 (M:Nat) (hstep:∀p acc m,m<M→good p→acc.length≤2^36→(∀q,rSpan (rest p) = .ok q→∃p',good p'∧rest p'=q.2∧F (mk p 0 acc (m+1))=some (.inl (mk p' 0 (acc++[q.1]) m)))∧
   (∀e,rSpan (rest p) = .error e→∃p' s,F (mk p 0 acc (m+1))=some (.inl (mk p' e (acc++[s]) m))))
 (h0:∀p acc,F (mk p 0 acc 0)=some (.inr (fin p 0 acc 0))) (he:∀p e acc m,e≠0→F (mk p e acc m)=some (.inr (fin p e acc m))):
 ∀m p acc,m≤M→good p→acc.length+(rest p).length≤2^36→(∀q,rSpans m (rest p) = .ok q→∃p',good p'∧rest p'=q.2∧iterL F (mk p 0 acc m)=some (fin p' 0 (acc++q.1) 0))∧
  (∀e,rSpans m (rest p) = .error e→e≠0∧∃p' acc' m',iterL F (mk p 0 acc m)=some (fin p' e acc' m')):=by
 intro m
 induction m with
 |zero=>
  intro p acc hM hp hl
  refine⟨fun q hq=>?_,fun e h=>by simp[rSpans]at h⟩
  simp only[rSpans,Except.ok.injEq]at hq
  subst hq
  exact⟨p,hp,rfl,by rw[iterL_inr (h0 p acc),List.append_nil]⟩
 |succ m ih=>
  intro p acc hM hp hl
  obtain⟨s1,s2⟩:=hstep p acc m (by omega) hp (by omega)
  simp only[rSpans]
  cases hn:rSpan (rest p) with
  |error e'=>
   obtain⟨p',s,e1⟩:=s2 e' hn
   have h0':=rSpan_err (hg p hp) hn
   refine⟨fun q hq=>?_,fun e h=>?_⟩
   ·rw[Rd.then_error hn]at hq;cases hq
   ·rw[Rd.then_error hn]at h;injection h with h;subst h
    exact⟨h0',p',_,m,by rw[iterL_inl e1,iterL_inr (he p' _ _ m h0')]⟩
  |ok v=>
   obtain⟨p',g1,g2,e1⟩:=s1 v hn
   obtain⟨a,f1,f2⟩:=rSpan_short _ v (hg p hp) hn
   have hlen:=congrArg List.length f1
   rw[List.length_append]at hlen
   obtain⟨i1,i2⟩:=ih p' (acc++[v.1]) (by omega) g1 (by rw[g2,List.length_append];simp only[List.length_cons,List.length_nil];omega)
   rw[g2]at i1 i2
   rw[iterL_inl e1]
   refine⟨fun q hq=>?_,fun e h=>?_⟩
   ·rw[Rd.then_ok hn]at hq
    obtain⟨q',h1,h2⟩:=Rd.then_eq_ok hq
    injection h2 with h2
    obtain⟨p'',j1,j2,j3⟩:=i1 q' h1
    refine⟨p'',j1,by rw[←h2];exact j2,?_⟩
    rw[j3,←h2];simp
   ·rw[Rd.then_ok hn]at h
    refine i2 e ?_
    cases hm:rSpans m v.2 with
    |ok q'=>rw[Rd.then_ok hm]at h;cases h
    |error e'=>rw[Rd.then_error hm]at h;injection h with h;rw[h]
noncomputable def tailO (s:List Int×Int):Option ((List Int×Int)×Int×Int×Bool×List Int×Int):=(O_codec_Reader_Number s).bind fun r59=>(O_codec_Reader_Number r59.1).bind fun r60=>(O_codec_Reader_Bool r60.1).bind fun r61=>(O_codec_Reader_Text (r61.1,64)).bind fun r62=>(O_codec_Reader_Number r62.1).bind fun r63=>some (r63.1,(r59.2,r60.2,r61.2,r62.2,r63.2))
theorem rBool_short:Short rBool:=fun l p hl h=>by
 have:=rBool_back (h:=p.1) (r:=p.2) hl h
 exact⟨[if p.1=true then 1 else 0],this,by simp⟩
theorem rText_short (m:Nat):Short (rText m):=fun l p hl h=>by
 obtain⟨_,e⟩:=rText_back (t:=p.1) (r:=p.2) hl h
 exact⟨numB p.1.length++p.1,by rw[List.append_assoc];exact e,by have:=numB_pos p.1.length;simp;omega⟩
theorem runs_tail:Runs tailO rTail:=
 runs_then runs_num rNum_short (fun a=>runs_then runs_num rNum_short (fun b=>runs_then runs_bool rBool_short (fun h=>runs_then (runs_text 64 (by decide)) (rText_short 64) (fun t=>runs_map (f:=fun n=>(a,b,h,t,n)) (O':=fun s=>(O_codec_Reader_Number s).bind fun r=>some (r.1,(a,b,h,t,r.2))) runs_num (fun s=>rfl)))))
theorem tail_some {s:List Int×Int} {y:(List Int×Int)×Int×Int×Bool×List Int×Int} (h:tailO s=some y):∃r1 r2 r3 r4 r5,O_codec_Reader_Number s=some r1∧O_codec_Reader_Number r1.1=some r2∧O_codec_Reader_Bool r2.1=some r3∧O_codec_Reader_Text (r3.1,64)=some r4∧O_codec_Reader_Number r4.1=some r5∧y=(r5.1,(r1.2,r2.2,r3.2,r4.2,r5.2)):=by
 unfold tailO at h
 obtain⟨r1,h1,h⟩:=bind_some'.1 h
 obtain⟨r2,h2,h⟩:=bind_some'.1 h
 obtain⟨r3,h3,h⟩:=bind_some'.1 h
 obtain⟨r4,h4,h⟩:=bind_some'.1 h
 obtain⟨r5,h5,h⟩:=bind_some'.1 h
 injection h with h
 exact⟨r1,r2,r3,r4,r5,h1,h2,h3,h4,h5,h.symm⟩
def zeroD:Dlt:=(0,0,[],0,0,false,[],0)
def readRes {α:Type} (z:α) (f:Dlt→α):Except Int Dlt→α×Int
 |.ok d=>(f d,0)
 |.error e=>(z,e)
theorem span_len {s:Sp} (h:spanFine s):s.2.2.length≤132:=h.2.2.2.2.2.1
abbrev SR:=List Int×Int×Int×Int×List Sp×Int×Int×Bool×List UInt8×Int×Int
abbrev XR:=List Int×Int×Int×Int×List Sp×Int×Int×Bool×List UInt8×Int×Int×Bool
noncomputable def spansF:SR→Option (SR⊕XR):=fun s54=>((bif ((decide (s54.2.2.2.2.2.2.2.2.2.2>0))==true) then ((O_codec_Reader_Err (s54.1,s54.2.1)).bind fun r55=>(some (r55.1.1,(r55.1.2,(r55.2==0))))) else (some (s54.1,(s54.2.1,false)))).bind fun v56=>(bif v56.2.2 then ((O_delta_span (v56.1,v56.2.1)).bind fun r57=>(bif decide ((s54.2.2.2.2.1.length+([r57.2]:List ((Int)×(Int)×List ((Int)×(Int)×(Int)×Int))).length)*(40+1)≤most) then (some (Sum.inl (r57.1.1,(r57.1.2,(s54.2.2.1,(s54.2.2.2.1,((s54.2.2.2.2.1++([r57.2]:List ((Int)×(Int)×List ((Int)×(Int)×(Int)×Int)))),(s54.2.2.2.2.2.1,(s54.2.2.2.2.2.2.1,(s54.2.2.2.2.2.2.2.1,(s54.2.2.2.2.2.2.2.2.1,(s54.2.2.2.2.2.2.2.2.2.1,(IntKind.wrap .i64 (s54.2.2.2.2.2.2.2.2.2.2-1)))))))))))))) else none)) else (some (Sum.inr (v56.1,(v56.2.1,(s54.2.2.1,(s54.2.2.2.1,(s54.2.2.2.2.1,(s54.2.2.2.2.2.1,(s54.2.2.2.2.2.2.1,(s54.2.2.2.2.2.2.2.1,(s54.2.2.2.2.2.2.2.2.1,(s54.2.2.2.2.2.2.2.2.2.1,(s54.2.2.2.2.2.2.2.2.2.2,v56.2.2)))))))))))))))
theorem spansF_exit (p:List Int) {e:Int} (v0 v1:Int) (acc:List Sp) (m:Int) (he:e≠0):spansF (p,e,v0,v1,acc,0,0,false,[],0,m)=some (.inr (p,e,v0,v1,acc,0,0,false,[],0,m,false)):=by
 have h1:(e==0)=false:=by simpa using he
 unfold spansF
 simp only[O_codec_Reader_Err,Option.bind_some,h1]
 cases decide (m>0)<;>rfl
theorem spansF_run (v0 v1:Int) (m:Nat) (p:List Int) (hm:m≤72057594037927935) (hp:bytesIn p):
 (∀q,rSpans m p = .ok q→bytesIn q.2∧iterL spansF (p,0,v0,v1,[],0,0,false,[],0,(m:Int))=some (q.2,0,v0,v1,q.1,0,0,false,[],0,0,false))∧
 (∀e,rSpans m p = .error e→e≠0∧∃p' acc' m',iterL spansF (p,0,v0,v1,[],0,0,false,[],0,(m:Int))=some (p',e,v0,v1,acc',0,0,false,[],0,m',false)):=by
 have hl:=hp.2
 have key:=spansLoop (S:=SR) (X:=XR) (P:=List Int) (fun p e acc m=>(p,e,v0,v1,acc,0,0,false,[],0,(m:Int))) (fun p e acc m=>(p,e,v0,v1,acc,0,0,false,[],0,(m:Int),false)) id bytesIn (F:=spansF) (fun p hp=>hp) 72057594037927935
  (fun p acc m hm hp hal=>⟨fun q hq=>?_,fun e he=>?_⟩) (fun p acc=>?_) (fun p e acc m he=>spansF_exit p v0 v1 acc m he) m p [] hm hp (by simpa using hl)
 ·obtain⟨k1,k2⟩:=key
  refine⟨fun q hq=>?_,fun e he=>?_⟩
  ·obtain⟨p',g1,g2,g3⟩:=k1 q hq
   have g2:p'=q.2:=g2
   subst g2
   exact⟨g1,g3⟩
  ·obtain⟨h0,p',acc',m',h1⟩:=k2 e he
   exact⟨h0,p',acc',m',h1⟩
 ·have hq:rSpan p = .ok q:=hq
  have ho:=runs_span.ok p hp q hq
  obtain⟨_,hl⟩:=rSpan_back (s:=q.1) (r:=q.2) hp hq
  have hm1:(((m+1:Nat):Int)>0):=by omega
  have hmm:(acc.length+1)*(40+1)≤most:=by unfold most;omega
  have hw:IntKind.wrap .i64 (((m+1:Nat):Int)-1)=(m:Int):=by rw[w64 (by omega) (by omega)];omega
  refine⟨q.2,bytesIn_right (hl▸hp),rfl,?_⟩
  unfold spansF
  simp only[hm1,decide_true,beq_self_eq_true,cond_true,O_codec_Reader_Err,Option.bind_some,ho,List.length_cons,List.length_nil,Nat.zero_add,hmm,hw]
 ·have he:rSpan p = .error e:=he
  obtain⟨_,b',v,ho⟩:=runs_span.error p hp e he
  have hm1:(((m+1:Nat):Int)>0):=by omega
  have hmm:(acc.length+1)*(40+1)≤most:=by unfold most;omega
  have hw:IntKind.wrap .i64 (((m+1:Nat):Int)-1)=(m:Int):=by rw[w64 (by omega) (by omega)];omega
  refine⟨b',v,?_⟩
  unfold spansF
  simp only[hm1,decide_true,beq_self_eq_true,cond_true,O_codec_Reader_Err,Option.bind_some,ho,List.length_cons,List.length_nil,Nat.zero_add,hmm,hw]
 ·unfold spansF
  have h0:¬(((0:Nat):Int)>0):=by decide
  simp only[h0,decide_false,Bool.false_beq,Bool.not_true,cond_false,Option.bind_some]
theorem deltaRead_eq (b:List Int) (hb:bytesIn b):O_delta_Read b=some (readRes zeroD id (rDelta b)):=by
 unfold O_delta_Read
 have hb2:=hb.2
 rw[newReader_eq b hb2]
 simp only[Option.bind_some]
 have herr:∀(st:List Int×Int) (e:Int) b',st=(b',e)→e≠0→rDelta b = .error e→∀(v0 v1:Int) (sp:List Sp),((O_codec_Reader_Number st).bind fun r59=>(O_codec_Reader_Number r59.1).bind fun r60=>(O_codec_Reader_Bool r60.1).bind fun r61=>(O_codec_Reader_Text (r61.1,64)).bind fun r62=>(O_codec_Reader_Number r62.1).bind fun r63=>(O_codec_Reader_Done r63.1).bind fun r64=>
  (bif (r64.2 != 0) then (some (zeroD,r64.2)) else ((F_delta_Right (v0,v1,sp,r59.2,r60.2,r61.2,toB r62.2,r63.2)).bind fun r65=>(bif (!r65) then (some (zeroD,6)) else (some ((v0,v1,sp,r59.2,r60.2,r61.2,toB r62.2,r63.2),0))))))=some (readRes zeroD id (rDelta b)):=by
  intro st e b' hst he hr v0 v1 sp
  subst hst
  obtain⟨v,hv⟩:=runs_tail.bad b' e he
  obtain⟨r1,r2,r3,r4,r5,h1,h2,h3,h4,h5,h6⟩:=tail_some hv
  have h6':r5.1=(b',e):=by rw[Prod.mk.injEq]at h6;exact h6.1.symm
  have hne:(e != 0)=true:=by simpa using he
  simp only[h1,h2,h3,h4,h5,Option.bind_some,h6',done_eq,if_neg he,hne,cond_true,hr,readRes]
 cases hn:rNums 3 b with
 |error e=>
  obtain⟨k1,b',v,k2⟩:=runs_three.error b hb e hn
  obtain⟨r1,r2,r3,e1,e2,e3,e4⟩:=three_some k2
  simp only[Prod.mk.injEq]at e4
  have hr:rDelta b = .error e:=by unfold rDelta rAll;rw[Rd.then_error hn]
  simp only[e1,e2,e3,Option.bind_some,←e4.1]
  show ((iterL spansF (b',e,r1.2,r2.2,[],0,0,false,[],0,r3.2)).bind _)=_
  rw[iterL_inr (spansF_exit b' r1.2 r2.2 [] r3.2 k1)]
  exact herr (b',e) e b' rfl k1 hr r1.2 r2.2 []
 |ok p=>
  obtain⟨r1,r2,r3,e1,e2,e3,e4⟩:=three_some (runs_three.ok b hb p hn)
  simp only[Prod.mk.injEq]at e4
  have hp:=(nums_right hb hn).1
  have n2:=nth hb hn 2 (by omega)
  have g0:r1.2=p.1.getD 0 0:=by rw[e4.2];rfl
  have g1:r2.2=p.1.getD 1 0:=by rw[e4.2];rfl
  have g2:r3.2=(((p.1.getD 2 0).toNat:Nat):Int):=by rw[Int.toNat_of_nonneg n2.2.1,e4.2];rfl
  simp only[e1,e2,e3,Option.bind_some,←e4.1,g2]
  obtain⟨s1,s2⟩:=spansF_run r1.2 r2.2 (p.1.getD 2 0).toNat p.2 (by omega) hp
  cases hs:rSpans (p.1.getD 2 0).toNat p.2 with
  |error e=>
   obtain⟨k1,p',acc',m',k2⟩:=s2 e hs
   have hr:rDelta b = .error e:=by unfold rDelta rAll;rw[Rd.then_ok hn,Rd.then_error hs]
   show ((iterL spansF (p.2,0,r1.2,r2.2,[],0,0,false,[],0,(((p.1.getD 2 0).toNat:Nat):Int))).bind _)=_
   rw[k2]
   exact herr (p',e) e p' rfl k1 hr r1.2 r2.2 acc'
  |ok q=>
   obtain⟨hq,k2⟩:=s1 q hs
   show ((iterL spansF (p.2,0,r1.2,r2.2,[],0,0,false,[],0,(((p.1.getD 2 0).toNat:Nat):Int))).bind _)=_
   rw[k2]
   simp only[Option.bind_some]
   cases ht:rTail q.2 with
   |error e=>
    obtain⟨k1,b',v,hv⟩:=runs_tail.error q.2 hq e ht
    have hr:rDelta b = .error e:=by unfold rDelta rAll;rw[Rd.then_ok hn,Rd.then_ok hs,Rd.then_error ht]
    obtain⟨r1',r2',r3',r4',r5',h1,h2,h3,h4,h5,h6⟩:=tail_some hv
    have h6':r5'.1=(b',e):=by rw[Prod.mk.injEq]at h6;exact h6.1.symm
    have hne:(e != 0)=true:=by simpa using k1
    simp only[h1,h2,h3,h4,h5,Option.bind_some,h6',done_eq,if_neg k1,hne,cond_true,hr,readRes]
    rfl
   |ok x=>
    obtain⟨r1',r2',r3',r4',r5',h1,h2,h3,h4,h5,h6⟩:=tail_some (runs_tail.ok q.2 hq x ht)
    have h6':r5'.1=(x.2,0):=by rw[Prod.mk.injEq]at h6;exact h6.1.symm
    have h7:x.1=(r1'.2,r2'.2,r3'.2,r4'.2,r5'.2):=by rw[Prod.mk.injEq]at h6;exact h6.2
    have hall:rAll b = .ok ((r1.2,r2.2,q.1,r1'.2,r2'.2,r3'.2,r4'.2,r5'.2),x.2):=by
     unfold rAll
     rw[Rd.then_ok hn,Rd.then_ok hs,Rd.then_ok ht,h7,g0,g1]
    obtain⟨f1,f2,f3⟩:=rSpans_back (sp:=q.1) (r:=q.2) hp hs
    obtain⟨t1,t2,t3⟩:=rTail_back (x:=x.1) (r:=x.2) hq ht
    have hfew:fewD (asD (r1.2,r2.2,q.1,r1'.2,r2'.2,r3'.2,r4'.2,r5'.2)):=by
     refine⟨?_,fun s hs=>by have:=span_len (f1 s hs);omega,?_⟩
     ·have:q.1.length≤(q.1.flatMap encSpan).length:=by
       have:∀l:List Sp,l.length≤(l.flatMap encSpan).length:=fun l=>by
        induction l with
        |nil=>simp
        |cons s l ih=>have:=encSpan_pos s;simp only[List.flatMap_cons,List.length_append,List.length_cons];omega
       exact this q.1
      have h2:=congrArg List.length f3
      rw[List.length_append]at h2
      have:=hp.2
      show q.1.length≤_
      omega
     ·have h2:=t1.2.2.2.2.1
      rw[h7]at h2
      show (toB r4'.2).length≤_
      simp only[toB,List.length_map]at h2 ⊢
      omega
    have hright:=deltaRight_eq _ hfew
    have hd:rDelta b=if x.2=[] then if deltaOk (asD (r1.2,r2.2,q.1,r1'.2,r2'.2,r3'.2,r4'.2,r5'.2))=true then .ok (asD (r1.2,r2.2,q.1,r1'.2,r2'.2,r3'.2,r4'.2,r5'.2)) else .error 6 else .error 5:=by
     unfold rDelta;rw[hall]
    simp only[h1,h2,h3,h4,h5,Option.bind_some,h6',done_eq,if_true]
    by_cases hx:x.2=[]
    ·rw[hd,if_pos hx]
     simp only[hx,if_true,bne_self_eq_false,cond_false]
     have hr2:F_delta_Right (r1.2,(r2.2,(q.1,(r1'.2,(r2'.2,(r3'.2,((r4'.2.map fun n=>UInt8.ofNat (Int.toNat n)),r5'.2)))))))=some (deltaOk (asD (r1.2,r2.2,q.1,r1'.2,r2'.2,r3'.2,r4'.2,r5'.2))):=hright
     rw[hr2]
     simp only[Option.bind_some]
     cases deltaOk (asD (r1.2,r2.2,q.1,r1'.2,r2'.2,r3'.2,r4'.2,r5'.2))<;>rfl
    ·rw[hd,if_neg hx]
     simp only[hx,if_false]
     rfl
end Go.Ideal.Seat
set_option linter.unusedVariables false
set_option linter.unusedSimpArgs false
namespace Go.Ideal.Seat
open Go.Ideal.Plain
end Go.Ideal.Seat
set_option linter.unusedVariables false
set_option linter.unusedSimpArgs false
namespace Go.Ideal.Seat
open Go.Ideal.Plain
theorem wNumI {b:List Int} {n:Int} (h:0≤n) (h2:n≤72057594037927935) (hb:b.length≤2^39):O_codec_Writer_Number ((b,0),n)=some (b++numB n.toNat,0):=by
 have:=wNum_eq b n.toNat (by omega) hb
 rwa [Int.toNat_of_nonneg h]at this
theorem encCells_len {l:List Cell} (h:∀c∈l,cellOk c=true) (hl:l.length≤2^30):(encCells l).length≤45*l.length:=by
 obtain⟨r1,r2⟩:=runs_cells h none (by simp)
 obtain⟨r3,r4⟩:=runs_len r1
 rw[r2]at r3 r4
 unfold encCells
 have key:∀x:List Rn,(∀y∈x,y.1≤l.length∧cellOk y.2=true)→(x.flatMap encRun).length≤45*x.length:=fun x hx=>by
  induction x with
  |nil=>simp
  |cons y x ih=>
   have h1:=encRun_len (x:=y) (hx y (by simp)).2 (by have:=(hx y (by simp)).1;omega)
   have h2:=ih fun z hz=>hx z (by simp[hz])
   simp only[List.flatMap_cons,List.length_append,List.length_cons]
   omega
 have:=key _ r4
 omega
theorem encSpan_len {s:Sp} (h:spanFine s):(encSpan s).length≤6000:=by
 obtain⟨h1,h2,h3,h4,h5,h6,h7⟩:=h
 have a1:=numB_len (n:=s.1.toNat) (by omega)
 have a2:=numB_len (n:=s.2.1.toNat) (by omega)
 have a3:=numB_len (n:=s.2.2.length) (by omega)
 have a4:=encCells_len h7 (by omega)
 unfold encSpan
 simp only[List.length_append]
 omega
def few4 (d:Dlt):Prop:=d.2.2.1.length≤2^20
theorem deltaBytes_eq (d:Dlt) (hf:fewD d) (h4:few4 d):F_delta_Bytes d=some (if deltaOk d=true then (encDelta d,0) else ([],6)):=by
 unfold F_delta_Bytes
 rw[deltaRight_eq d hf]
 simp only[Option.bind_some]
 cases hd:deltaOk d with
 |false=>rfl
 |true=>
  obtain⟨⟨a1,a2,a3,a4⟩,a5,a6,a7,a8,a9,a10,a11,a12⟩:=delta_fine hd
  unfold few4 at h4
  have n1:=numB_len (n:=d.1.toNat) (by omega)
  have n2:=numB_len (n:=d.2.1.toNat) (by omega)
  have n3:=numB_len (n:=d.2.2.1.length) (by omega)
  have n4:=numB_len (n:=d.2.2.2.1.toNat) (by omega)
  have n5:=numB_len (n:=d.2.2.2.2.1.toNat) (by omega)
  have n6:=numB_len (n:=d.2.2.2.2.2.2.1.length) (by omega)
  have n7:=numB_len (n:=d.2.2.2.2.2.2.2.toNat) (by omega)
  simp only[Bool.not_true,cond_false,O_codec_NewWriter,Option.bind_some]
  rw[wNumI a1 (by omega) (by simp)]
  simp only[Option.bind_some,List.nil_append]
  rw[wNumI a3 (by omega) (by omega)]
  simp only[Option.bind_some]
  rw[wNum_eq _ d.2.2.1.length (by omega) (by rw[List.length_append];omega)]
  simp only[Option.bind_some]
  rw[foldLoop (l:=d.2.2.1) (fun(o:List Int) i=>(o,(0:Int),i)) (fun o s=>o++encSpan s) (fun i o=>o.length≤27+6000*i) (fin:=fun o=>(o,0,(d.2.2.1.length:Int),false)) (by simp only[List.length_append];omega) (fun o i s he hi hv=>?_) (fun o hv=>by simp)]
  ·have hsl:(d.2.2.1.flatMap encSpan).length≤6000*d.2.2.1.length:=by
    have key:∀l:List Sp,(∀s∈l,spanFine s)→(l.flatMap encSpan).length≤6000*l.length:=fun l hl=>by
     induction l with
     |nil=>simp
     |cons s l ih=>
      have h1:=encSpan_len (hl s (by simp))
      have h2:=ih fun z hz=>hl z (by simp[hz])
      simp only[List.flatMap_cons,List.length_append,List.length_cons]
      omega
    exact key _ a5
   have hm:d.2.2.2.2.2.2.1.length≤most:=by unfold most;omega
   have hil:=ints_len d.2.2.2.2.2.2.1
   simp only[Option.bind_some,foldl_app]
   rw[wNumI a6 (by omega) (by simp only[List.length_append];omega)]
   simp only[Option.bind_some]
   rw[wNumI a8 (by omega) (by simp only[List.length_append];omega)]
   simp only[Option.bind_some]
   rw[wBool_eq _ _ (by simp only[List.length_append];omega)]
   simp only[Option.bind_some,hm,decide_true,cond_true]
   have ht:=fun o ho=>wText_eq o (ints d.2.2.2.2.2.2.1) (by omega) ho
   unfold ints at ht hil
   rw[ht _ (by simp only[List.length_append,List.length_cons,List.length_nil];omega)]
   simp only[Option.bind_some]
   rw[wNumI a11 (by omega) (by simp only[List.length_append,List.length_cons,List.length_nil,List.length_map];omega)]
   simp only[Option.bind_some]
   rw[wBytes_eq _ (by simp only[List.length_append,List.length_cons,List.length_nil,List.length_map];omega)]
   simp only[Option.bind_some,if_true,Option.some.injEq,Prod.mk.injEq,and_true]
   unfold encDelta ints
   rw[hil]
   simp only[List.append_assoc,List.cons_append,List.nil_append]
  ·have hs:=a5 s (List.mem_of_getElem? he)
   obtain⟨h1,h2,h3,h4',h5,h6,h7⟩:=hs
   have m1:=numB_len (n:=s.1.toNat) (by omega)
   have m2:=numB_len (n:=s.2.1.toNat) (by omega)
   have m3:=numB_len (n:=s.2.2.length) (by omega)
   have hi':(i:Int)<(d.2.2.1.length:Int):=by omega
   have hsl:=encSpan_len (s:=s) ⟨h1,h2,h3,h4',h5,h6,h7⟩
   refine⟨?_,by rw[List.length_append];omega⟩
   simp only[hi',decide_true,cond_true,Int.natCast_nonneg,Int.toNat_natCast,he,Option.bind_some,wsucc (show i<2^62 by omega)]
   rw[wNumI h1 (by omega) (by omega)]
   simp only[Option.bind_some]
   rw[wNumI h3 (by omega) (by rw[List.length_append];omega)]
   simp only[Option.bind_some]
   rw[wNum_eq _ s.2.2.length (by omega) (by simp only[List.length_append];omega)]
   simp only[Option.bind_some]
   rw[cellWrite_eq _ _ h7 (by omega) (by simp only[List.length_append];omega)]
   simp only[Option.bind_some,encSpan,List.append_assoc]
theorem encDelta_len {d:Dlt} (h:deltaOk d=true) (h4:few4 d):(encDelta d).length≤2^36:=by
 obtain⟨⟨a1,a2,a3,a4⟩,a5,a6,a7,a8,a9,a10,a11,a12⟩:=delta_fine h
 unfold few4 at h4
 have n1:=numB_len (n:=d.1.toNat) (by omega)
 have n2:=numB_len (n:=d.2.1.toNat) (by omega)
 have n3:=numB_len (n:=d.2.2.1.length) (by omega)
 have n4:=numB_len (n:=d.2.2.2.1.toNat) (by omega)
 have n5:=numB_len (n:=d.2.2.2.2.1.toNat) (by omega)
 have n6:=numB_len (n:=d.2.2.2.2.2.2.1.length) (by omega)
 have n7:=numB_len (n:=d.2.2.2.2.2.2.2.toNat) (by omega)
 have hil:=ints_len d.2.2.2.2.2.2.1
 have key:∀l:List Sp,(∀s∈l,spanFine s)→(l.flatMap encSpan).length≤6000*l.length:=fun l hl=>by
  induction l with
  |nil=>simp
  |cons s l ih=>
   have h1:=encSpan_len (hl s (by simp))
   have h2:=ih fun z hz=>hl z (by simp[hz])
   simp only[List.flatMap_cons,List.length_append,List.length_cons]
   omega
 have:=key _ a5
 unfold encDelta
 simp only[List.length_append,List.length_cons]
 omega
theorem encDelta_in {d:Dlt} (h:deltaOk d=true) (h4:few4 d):bytesIn (encDelta d):=by
 refine⟨?_,encDelta_len h h4⟩
 have hf:∀{E:Type} (l:List E) (g:E→List Int),(∀e∈l,∀x∈g e,0≤x∧x<256)→∀x∈l.flatMap g,0≤x∧x<256:=fun l g hg x hx=>by
  obtain⟨e,he,hx⟩:=List.mem_flatMap.1 hx
  exact hg e he x hx
 have hs:∀s:Sp,∀x∈encSpan s,0≤x∧x<256:=fun s x hx=>by
  unfold encSpan at hx
  simp only[List.mem_append]at hx
  rcases hx with h|h|h|h
  ·exact numB_bytes _ x h
  ·exact numB_bytes _ x h
  ·exact numB_bytes _ x h
  ·exact hf _ _ (fun r _=>hf _ _ fun n _=>numB_bytes n) x h
 intro x hx
 unfold encDelta at hx
 simp only[List.mem_append,List.mem_cons]at hx
 rcases hx with h|h|h|h|h|h|h|h|h|h
 ·exact numB_bytes _ x h
 ·exact numB_bytes _ x h
 ·exact numB_bytes _ x h
 ·exact hf _ _ (fun s _=>hs s) x h
 ·exact numB_bytes _ x h
 ·exact numB_bytes _ x h
 ·rw[h];split<;>decide
 ·exact numB_bytes _ x h
 ·exact ints_bytes _ x h
 ·exact numB_bytes _ x h
theorem rSpans_err:∀{n:Nat} {l:List Int} {e:Int},bytesIn l→rSpans n l = .error e→e≠0
 |0,l,e,hl,h=>by simp[rSpans]at h
 |n+1,l,e,hl,h=>by
  simp only[rSpans]at h
  cases hn:rSpan l with
  |error e'=>
   rw[Rd.then_error hn]at h
   injection h with h;subst h
   exact rSpan_err hl hn
  |ok p=>
   rw[Rd.then_ok hn]at h
   obtain⟨_,f⟩:=rSpan_back (s:=p.1) (r:=p.2) hl hn
   cases hm:rSpans n p.2 with
   |error e'=>rw[Rd.then_error hm]at h;injection h with h;subst h;exact rSpans_err (bytesIn_right (f▸hl)) hm
   |ok q=>rw[Rd.then_ok hm]at h;cases h
theorem rDelta_err {b:List Int} {e:Int} (hb:bytesIn b) (h:rDelta b = .error e):e≠0:=by
 unfold rDelta at h
 split at h
 ·rename_i e' hp
  injection h with h;subst h
  unfold rAll at hp
  cases hn:rNums 3 b with
  |error e'=>rw[Rd.then_error hn]at hp;injection hp with hp;subst hp;exact rNums_err hn
  |ok p=>
   rw[Rd.then_ok hn]at hp
   have hp1:=(nums_right hb hn).1
   cases hs:rSpans (p.1.getD 2 0).toNat p.2 with
   |error e'=>rw[Rd.then_error hs]at hp;injection hp with hp;subst hp;exact rSpans_err hp1 hs
   |ok q=>
    rw[Rd.then_ok hs]at hp
    obtain⟨_,_,f3⟩:=rSpans_back (sp:=q.1) (r:=q.2) hp1 hs
    cases ht:rTail q.2 with
    |error e'=>rw[Rd.then_error ht]at hp;injection hp with hp;subst hp;exact(runs_tail.error q.2 (bytesIn_right (f3▸hp1)) _ ht).1
    |ok x=>rw[Rd.then_ok ht]at hp;cases hp
 ·split at h
  ·split at h
   ·cases h
   ·injection h with h;omega
  ·injection h with h;omega
end Go.Ideal.Seat
set_option linter.unusedVariables false
set_option linter.unusedSimpArgs false
namespace Go.Ideal.Seat
open Go.Ideal.Plain
theorem patch_all {C:Nat} (hC:0<C) {xs ys:List Cell} (hl:xs.length=ys.length) (hY:∀c∈ys,cellOk c=true):∀n,n≤xs.length→
 (upTo (rStep C (xs.getD · blankC) (ys.getD · blankC)) n []).foldl (putSpan C) xs=ys.take n++xs.drop n
 |0,_=>by simp[upTo]
 |n+1,hn=>by
  have ih:=patch_all hC hl hY n (by omega)
  obtain⟨⟨o1,_⟩,o2⟩:=ord_all hC (X:=(xs.getD · blankC)) (Y:=(ys.getD · blankC)) (fun j=>by
   by_cases hj:j<ys.length
   ·rw[List.getD_eq_getElem?_getD,List.getElem?_eq_getElem hj];exact hY _ (List.getElem_mem hj)
   ·rw[List.getD_eq_getElem?_getD,List.getElem?_eq_none (by omega)];exact blank_ok) n
  simp only[upTo]
  generalize upTo (rStep C (xs.getD · blankC) (ys.getD · blankC)) n []=out at *
  have hx:xs[n]? = some (xs.getD n blankC):=getD_get (by omega)
  have hy:ys[n]? = some (ys.getD n blankC):=getD_get (by omega)
  have hxd:xs.drop n=xs.getD n blankC::xs.drop (n+1):=by
   rw[List.drop_eq_getElem_cons (by omega)]
   rw[List.getElem?_eq_getElem (by omega)]at hx
   injection hx with hx
   rw[hx]
  have hyt:ys.take (n+1)=ys.take n++[ys.getD n blankC]:=by rw[List.take_add_one,hy];rfl
  have hylen:(ys.take n).length=n:=by rw[List.length_take];omega
  have hdm:=Nat.div_add_mod n C
  simp only[rStep]
  split
  ·rename_i h
   rw[ih,hxd,hyt,h];simp
  ·split
   ·rename_i he
    cases hq:out.getLast? with
    |none=>unfold ends at he;rw[hq]at he;cases he
    |some s=>
     rw[ends_eq hq]at he
     simp only[Bool.and_eq_true,decide_eq_true_eq]at he
     have hs:=o1 s (List.mem_of_getLast? hq)
     have hsplit:=drop_last hq
     have hoff:(s.1*(C:Int)+s.2.1).toNat+s.2.2.length=n:=by
      have h1:s.1*(C:Int)=((n/C*C:Nat):Int):=by rw[he.1,Int.natCast_mul]
      have h2:n/C*C+n%C=n:=by rw[Nat.mul_comm];exact hdm
      omega
     have e1:out.foldl (putSpan C) xs=putSpan C (out.dropLast.foldl (putSpan C) xs) s:=by
      conv=>lhs;rw[←hsplit]
      rw[List.foldl_append];rfl
     have e2:(addTo out (ys.getD n blankC)).foldl (putSpan C) xs=putSpan C (out.dropLast.foldl (putSpan C) xs) (s.1,s.2.1,s.2.2++[ys.getD n blankC]):=by
      unfold addTo;rw[hq];simp only[List.foldl_append];rfl
     rw[e2]
     rw[e1]at ih
     generalize out.dropLast.foldl (putSpan C) xs=P at *
     unfold putSpan at ih ⊢
     simp only[List.length_append,List.length_cons,List.length_nil]at ih ⊢
     rw[hoff]at ih
     have hlen:=congrArg List.length ih
     simp only[List.length_append,List.length_take,List.length_drop]at hlen
     have hPl:(P.take (s.1*(C:Int)+s.2.1).toNat++s.2.2).length=n:=by
      rw[List.length_append,List.length_take];omega
     obtain⟨k1,k2⟩:=List.append_inj ih (by rw[hPl,hylen])
     rw[←List.append_assoc,k1,hyt]
     have k3:P.drop ((s.1*(C:Int)+s.2.1).toNat+(s.2.2.length+(0+1)))=xs.drop (n+1):=by
      have:=congrArg (List.drop 1) k2
      rw[List.drop_drop,List.drop_drop]at this
      rw[show (s.1*(C:Int)+s.2.1).toNat+(s.2.2.length+(0+1))=n+1 by omega]
      exact this
     rw[k3]
   ·rw[List.foldl_append,ih]
    simp only[List.foldl_cons,List.foldl_nil]
    unfold putSpan
    have hoff:(((n/C:Nat):Int)*(C:Int)+((n%C:Nat):Int)).toNat=n:=by
     rw[←Int.natCast_mul,←Int.natCast_add,Int.toNat_natCast,Nat.mul_comm];exact hdm
    simp only[hoff,List.length_cons,List.length_nil,Nat.zero_add]
    have k3:(ys.take n++xs.drop n).drop (n+1)=xs.drop (n+1):=by rw[←List.drop_drop,List.drop_left' hylen,List.drop_drop]
    rw[k3,List.take_left' hylen,hyt]
theorem applied_back {a b:Img} (ha:imageOk a=true) (hb:imageOk b=true):applied a (deltaD a b)=b:=by
 obtain⟨R,C,e1,e2,r1,r2,c1,c2,hl,hle,hs,hc⟩:=img_nat hb
 have hg:=base_ok (img_grid ha) hs
 have hgl:=grid_len hg (by rw[(base_dim _ hs).1];exact e1) (by rw[(base_dim _ hs).2];exact e2)
 have key:=patch_all (C:=C) (by omega) (xs:=(base (a.1,a.2.1,a.2.2.1) b.1 b.2.1).2.2) (ys:=b.2.2.1) (by omega) hc (R*C) (by omega)
 rw[(all_rows _ _ _ _).1,List.take_of_length_le (by omega),List.drop_eq_nil_of_le (by omega),List.append_nil]at key
 obtain⟨b1,b2,bc,br⟩:=b
 simp only at e1 e2 key
 subst e1;subst e2
 unfold applied deltaD spansOf
 simp only[Int.toNat_natCast]
 rw[key]
end Go.Ideal.Seat
set_option linter.unusedVariables false
set_option linter.unusedSimpArgs false
namespace Go.Ideal.Seat
open Go.Ideal.Plain
def blankI (r c:Int):Img:=(r,c,(grid0 r c).2.2,0,0,false,[],0)
def zeroI:Img:=(0,0,[],0,0,false,[],0)
theorem blankP_eq (r c:Int):F_paint_Blank (r,c)=some (if sizeOk r c=true then (blankI r c,0) else (zeroI,22)):=by
 unfold F_paint_Blank O_grid_New
 rw[size_eq]
 cases hs:sizeOk r c with
 |false=>rfl
 |true=>
  obtain⟨h1,h2,h3⟩:=size_mul hs
  have hb:=blanks_eq (r*c).toNat (by omega)
  rw[Int.toNat_of_nonneg (by omega)]at hb
  simp only[Option.bind_some,Bool.not_true,cond_false,h3,hb]
  simp only[O_grid_Board_Grid,clone_eq (List.replicate (r*c).toNat blankC) (by simp;omega),Option.bind_some,decide_true,cond_true,if_true]
  rfl
theorem viewNew_eq (r c:Int):O_view_New (r,c)=some (if sizeOk r c=true then ((0,blankI r c),0) else ((0,zeroI),22)):=by
 unfold O_view_New
 rw[blankP_eq]
 cases hs:sizeOk r c<;>rfl
abbrev Vw:=Int×Img
noncomputable def viewApply (v:Vw) (base to:Int) (data:List Int):Vw×Int:=
 if base<0∨to≤base∨to>281474976710656 then (v,1) else if to≤v.1 then (v,0) else if base≠v.1 then (v,20) else
  match rDelta data with
  |.error e=>(v,e)
  |.ok d=>((to,applied v.2 d),0)
theorem delta_few {b:List Int} {d:Dlt} (hb:bytesIn b) (h:rDelta b = .ok d):deltaOk d=true∧fewD d∧d.2.2.1.length≤b.length:=by
 obtain⟨e1,e2⟩:=rDelta_back hb h
 have hb2:=hb.2
 have hspl:d.2.2.1.length≤b.length:=by
  have key:∀l:List Sp,l.length≤(l.flatMap encSpan).length:=fun l=>by
   induction l with
   |nil=>simp
   |cons s l ih=>have:=encSpan_pos s;simp only[List.flatMap_cons,List.length_append,List.length_cons];omega
  have:=key d.2.2.1
  have h2:=congrArg List.length e1
  unfold encDelta at h2
  simp only[List.length_append,List.length_cons]at h2
  omega
 have hfine:=(delta_fine e2)
 exact⟨e2,⟨by omega,fun s hs=>by have:=span_len (hfine.2.1 s hs);omega,by have:=hfine.2.2.2.2.2.2.1;omega⟩,hspl⟩
theorem viewApply_eq (v:Vw) (base to:Int) (data:List Int) (hd:bytesIn data) (h1:v.2.2.2.1.length≤2^36) (h2:v.2.2.2.2.2.2.2.1.length≤2^36) (hv:imageOk v.2=true):O_view_Apply (v,base,to,data)=some (viewApply v base to data):=by
 unfold O_view_Apply viewApply
 have key:(bif ((decide (base<0))==false) then (bif ((decide (base≥to))==false) then (some (decide (to>281474976710656))) else (some true)) else (some true))=some (decide (base<0∨to≤base∨to>281474976710656)):=by
  by_cases a:base<0<;>by_cases b:to≤base<;>by_cases c:to>281474976710656<;>simp[a,b,c]<;>omega
 simp only[key,Option.bind_some]
 by_cases a:base<0∨to≤base∨to>281474976710656
 ·simp only[a,decide_true,cond_true,if_true]
 ·simp only[a,decide_false,cond_false,if_false]
  by_cases b:to≤v.1
  ·simp only[b,decide_true,cond_true,if_true]
  ·simp only[b,decide_false,cond_false,if_false]
   by_cases c:base=v.1
   ·simp only[c,bne_self_eq_false,cond_false,ne_eq,not_true_eq_false,if_false,deltaRead_eq data hd,Option.bind_some]
    cases hr:rDelta data with
    |error e=>
     have hne:(e != 0)=true:=by simpa using rDelta_err hd hr
     simp only[readRes,hne,cond_true]
    |ok d=>
     obtain⟨k1,k2,_⟩:=delta_few hd hr
     simp only[readRes,id_eq,bne_self_eq_false,cond_false,apply_eq v.2 d h1 h2 k2,hv,k1,if_true,Option.bind_some]
   ·have:(base != v.1)=true:=by simpa using c
    simp only[this,cond_true,ne_eq,c,not_false_eq_true,if_true]
theorem img_small {x:Img} (h:imageOk x=true):x.2.2.1.length≤7920∧x.2.2.2.2.2.2.1.length≤64:=by
 obtain⟨R,C,_,_,_,_,_,_,h1,h2,_⟩:=img_nat h
 unfold imageOk titleOk at h
 simp only[Bool.and_eq_true,decide_eq_true_eq]at h
 exact⟨by omega,h.1.2.1.1⟩
end Go.Ideal.Seat
set_option linter.unusedVariables false
set_option linter.unusedSimpArgs false
namespace Go.Ideal.Seat
open Go.Ideal.Plain
abbrev Mir:=Int×Int×Int×List Cell×Int×Int×Bool×List UInt8×Int×Bool×Int×Int×Int×List Cell×Int×Int×Bool×List UInt8×Int
def mkM (no:Int) (b:Img) (s:Bool) (t:Int) (i:Img):Mir:=(no,b.1,b.2.1,b.2.2.1,b.2.2.2.1,b.2.2.2.2.1,b.2.2.2.2.2.1,b.2.2.2.2.2.2.1,b.2.2.2.2.2.2.2,s,t,i)
open Classical in
theorem imgSame_eq (x y:Img) (h:x.2.2.1.length≤2^60):F_batonref16_Same (x,y)=some (decide (x=y)):=by
 unfold F_batonref16_Same F_batonref10_Same
 have bq:∀{α:Type} [BEq α] [LawfulBEq α] (a b:α),(a==b)=decide (a=b):=fun a b=>by rw[Bool.eq_iff_iff];simp
 have hc:=cells_same x.2.2.1 y.2.2.1 h
 obtain⟨x1,x2,x3,x4,x5,x6,x7,x8⟩:=x
 obtain⟨y1,y2,y3,y4,y5,y6,y7,y8⟩:=y
 simp only at hc
 simp only[hc,Option.bind_some,bq,Prod.mk.injEq]
 by_cases a:x1=y1<;>by_cases b:x2=y2<;>by_cases c:x3=y3<;>by_cases d:x4=y4<;>by_cases e:x5=y5<;>by_cases f:x6=y6<;>by_cases g:x7=y7<;>by_cases k:x8=y8<;>simp[a,b,c,d,e,f,g,k]
theorem paintSame_ref (x y:Img):F_paint_Same (x,y)=F_batonref16_Same (x,y):=rfl
open Classical in
noncomputable def mirOk (no:Int) (b:Img) (s:Bool) (t:Int) (i:Img):Bool:=decide (0≤no∧no≤281474976710656)&&imageOk b&&(if s=true then decide (no<281474976710656∧t=no+1)&&imageOk i else decide (t=0∧i=zeroI))
def smallI (x:Img):Prop:=x.2.2.1.length≤2^36∧x.2.2.2.2.2.2.1.length≤2^36
theorem img_smallI {x:Img} (h:imageOk x=true):smallI x:=by
 have:=img_small h
 exact⟨by omega,by omega⟩
def changeM (no:Int) (b:Img) (t:Int) (i:Img):Int×Int×List Int:=(no,t,encDelta (deltaD b i))
theorem change_eq (no:Int) (b:Img) (s:Bool) (t:Int) (i:Img) (hb:imageOk b=true) (hi:imageOk i=true):O_mirror_Mirror_change (mkM no b s t i)=some (changeM no b t i,0):=by
 unfold O_mirror_Mirror_change changeM
 obtain⟨s1,s2⟩:=img_small hb
 obtain⟨s3,s4⟩:=img_small hi
 have hd:=deltaOf_eq b i (by omega) (by omega) (by omega) (by omega)
 rw[if_pos ⟨hb,hi⟩]at hd
 have h4:few4 (deltaD b i):=by have:=(spansOf_ord hb hi).2.2;unfold few4;show (spansOf b i).length≤_;omega
 have hby:=deltaBytes_eq (deltaD b i) (deltaD_few hb hi (by omega)) h4
 rw[if_pos (deltaD_ok hb hi)]at hby
 obtain⟨b1,b2,b3,b4,b5,b6,b7,b8⟩:=b
 simp only[mkM,hd,Option.bind_some,bne_self_eq_false,cond_false,hby]
open Classical in
noncomputable def nextM (no:Int) (b:Img) (s:Bool) (t:Int) (i g:Img):Mir×(Int×Int×List Int)×Int:=
 if imageOk g=true then
  if s=true then (mkM no b s t i,changeM no b t i,0) else if g=b then (mkM no b s t i,(0,0,[]),3) else if no≥281474976710656 then (mkM no b s t i,(0,0,[]),16)
   else (mkM no b true (no+1) g,changeM no b (no+1) g,0)
 else (mkM no b s t i,(0,0,[]),1)
theorem next_eq (no:Int) (b:Img) (s:Bool) (t:Int) (i g:Img) (hg:smallI g) (hok:mirOk no b s t i=true):O_mirror_Next (mkM no b s t i,g)=some (nextM no b s t i g):=by
 unfold O_mirror_Next nextM
 obtain⟨h1,h2⟩:=hg
 have hok':=hok
 unfold mirOk at hok'
 simp only[Bool.and_eq_true,decide_eq_true_eq]at hok'
 obtain⟨⟨hn,hb⟩,hrest⟩:=hok'
 have hpg:=paintRight_eq g (by omega) (by omega)
 have hs:=(paintSame_ref g b).trans (imgSame_eq g b (by omega))
 have e:(b.1,b.2.1,b.2.2.1,b.2.2.2.1,b.2.2.2.2.1,b.2.2.2.2.2.1,b.2.2.2.2.2.2.1,b.2.2.2.2.2.2.2)=b:=rfl
 rw[hpg]
 simp only[Option.bind_some,mkM,e,hs]
 cases hgo:imageOk g with
 |false=>rfl
 |true=>
  simp only[Bool.not_true,cond_false,if_true]
  cases s with
  |true=>
   have hi:imageOk i=true:=by
    simp only[if_true,Bool.and_eq_true]at hrest
    exact hrest.2
   have hch:=change_eq no b true t i hb hi
   unfold mkM at hch
   simp only[cond_true,if_true,Option.bind_some,hch,bne_self_eq_false,cond_false]
  |false=>
   simp only[cond_false,Bool.false_eq_true,if_false]
   by_cases hgb:g=b
   ·simp only[hgb,decide_true,cond_true,if_true]
    rfl
   ·simp only[hgb,decide_false,cond_false,if_false]
    by_cases hmax:no≥281474976710656
    ·simp only[hmax,decide_true,cond_true,if_true]
     rfl
    ·have hw:IntKind.wrap .i64 (no+1)=no+1:=w64 (by omega) (by omega)
     have hch:=change_eq no b true (no+1) g hb hgo
     unfold mkM at hch
     simp only[hmax,decide_false,cond_false,if_false,hw,Option.bind_some,hch,bne_self_eq_false]
noncomputable def ackM (no:Int) (b:Img) (s:Bool) (t:Int) (i:Img) (n:Int):Mir×Int:=
 if s=true∧n=t then (mkM t i false 0 zeroI,0) else if n<0∨n>no then (mkM no b s t i,20) else (mkM no b s t i,0)
theorem ack_eq (no:Int) (b:Img) (s:Bool) (t:Int) (i:Img) (n:Int):O_mirror_Ack (mkM no b s t i,n)=some (ackM no b s t i n):=by
 unfold mkM O_mirror_Ack ackM
 have key:(bif ((decide (n<0))==false) then (some (decide (n>no))) else (some true))=some (decide (n<0∨n>no)):=by
  by_cases a:n<0<;>by_cases c:n>no<;>simp[a,c]
 cases s with
 |false=>
  simp only[Bool.false_beq,Bool.not_true,cond_false,Option.bind_some,key,Bool.false_eq_true,false_and,if_false]
  by_cases a:n<0∨n>no
  ·simp only[a,decide_true,cond_true,if_true];rfl
  ·simp only[a,decide_false,cond_false,if_false];rfl
 |true=>
  by_cases c:n=t
  ·simp only[beq_self_eq_true,cond_true,c,Option.bind_some,and_self,if_true]
   rfl
  ·have:(n==t)=false:=by simpa using c
   simp only[beq_self_eq_true,cond_true,this,Option.bind_some,cond_false,key,c,and_false,if_false]
   by_cases a:n<0∨n>no
   ·simp only[a,decide_true,cond_true,if_true];rfl
   ·simp only[a,decide_false,cond_false,if_false];rfl
end Go.Ideal.Seat
set_option linter.unusedVariables false
set_option linter.unusedSimpArgs false
namespace Go.Ideal.Seat
open Go.Ideal.Plain
theorem mirNew_eq (r c:Int):O_mirror_New (r,c)=some (if sizeOk r c=true then (mkM 0 (blankI r c) false 0 zeroI,0) else (mkM 0 zeroI false 0 zeroI,22)):=by
 unfold O_mirror_New
 rw[blankP_eq]
 cases hs:sizeOk r c<;>rfl
end Go.Ideal.Seat
set_option linter.unusedVariables false
set_option linter.unusedSimpArgs false
set_option maxRecDepth 100000
namespace Go.Ideal.Seat
open Go.Ideal.Plain
abbrev Chg:=Int×Int×List Int
def mkW (m:Mir) (v:Vw) (g:Img) (t:List Chg) (se:List Int) (im:List Img):=(m.1,m.2.1,m.2.2.1,m.2.2.2.1,m.2.2.2.2.1,m.2.2.2.2.2.1,m.2.2.2.2.2.2.1,m.2.2.2.2.2.2.2.1,m.2.2.2.2.2.2.2.2.1,m.2.2.2.2.2.2.2.2.2.1,m.2.2.2.2.2.2.2.2.2.2.1,m.2.2.2.2.2.2.2.2.2.2.2.1,m.2.2.2.2.2.2.2.2.2.2.2.2.1,m.2.2.2.2.2.2.2.2.2.2.2.2.2.1,m.2.2.2.2.2.2.2.2.2.2.2.2.2.2.1,m.2.2.2.2.2.2.2.2.2.2.2.2.2.2.2.1,m.2.2.2.2.2.2.2.2.2.2.2.2.2.2.2.2.1,m.2.2.2.2.2.2.2.2.2.2.2.2.2.2.2.2.2.1,m.2.2.2.2.2.2.2.2.2.2.2.2.2.2.2.2.2.2,v.1,v.2.1,v.2.2.1,v.2.2.2.1,v.2.2.2.2.1,v.2.2.2.2.2.1,v.2.2.2.2.2.2.1,v.2.2.2.2.2.2.2.1,v.2.2.2.2.2.2.2.2,g.1,g.2.1,g.2.2.1,g.2.2.2.1,g.2.2.2.2.1,g.2.2.2.2.2.1,g.2.2.2.2.2.2.1,g.2.2.2.2.2.2.2,t,se,im)
theorem do_show (m:Mir) (v:Vw) (g:Img) (t:List Chg) (se:List Int) (im:List Img) (n:Int):O_batonlaw35_world_do (mkW m v g t se im,0,n) =
 (bif (decide (n≥0)==true) then (bif (decide (n<((im.length:Nat):Int))==true) then (bif decide (0≤n) then ((im[n.toNat]?).bind fun e=>(F_batonref17_Right e).bind fun r=>some r) else none) else some false) else some false).bind fun c=>
   bif c then (bif decide (0≤n) then ((im[n.toNat]?).bind fun e=>some (mkW m v e t se im,true)) else none) else some (mkW m v g t se im,true):=rfl
theorem do_tell (m:Mir) (v:Vw) (g:Img) (t:List Chg) (se:List Int) (im:List Img) (n:Int):O_batonlaw35_world_do (mkW m v g t se im,1,n) =
 (O_mirror_Next (m,g)).bind fun r=>(bif (r.2.2==0) then (bif decide ((t.length+([r.2.1]:List Chg).length)*(40+1)≤most) then some (mkW r.1 v g (t++[r.2.1]) se im) else none) else some (mkW r.1 v g t se im)).bind fun w=>
   bif ((r.2.2==0)==false) then some (w,r.2.2==3) else some (w,true):=rfl
theorem do_come (m:Mir) (v:Vw) (g:Img) (t:List Chg) (se:List Int) (im:List Img) (n:Int):O_batonlaw35_world_do (mkW m v g t se im,2,n) =
 (bif (decide (n≥0)==true) then some (decide (n<((t.length:Nat):Int))) else some false).bind fun c=>
   bif c then (bif decide (0≤n) then (bif decide (n.toNat<t.length) then ((t[n.toNat]?).bind fun e=>(O_view_Apply (v,e)).bind fun r=>some (mkW m r.1 g t se im,r.2==0)) else none) else none) else some (mkW m v g t se im,true):=rfl
theorem do_see (m:Mir) (v:Vw) (g:Img) (t:List Chg) (se:List Int) (im:List Img) (n:Int):O_batonlaw35_world_do (mkW m v g t se im,3,n) =
 bif decide ((se.length+([v.1]:List Int).length)*(8+1)≤most) then some (mkW m v g t (se++[v.1]) im,true) else none:=rfl
theorem do_hear (m:Mir) (v:Vw) (g:Img) (t:List Chg) (se:List Int) (im:List Img) (k n:Int) (h0:k≠0) (h1:k≠1) (h2:k≠2) (h3:k≠3):O_batonlaw35_world_do (mkW m v g t se im,k,n) =
 (bif (decide (n≥0)==true) then some (decide (n<((se.length:Nat):Int))) else some false).bind fun c=>
   bif c then (bif decide (0≤n) then (bif decide (n.toNat<se.length) then ((se[n.toNat]?).bind fun e=>(O_mirror_Ack (m,e)).bind fun r=>some (mkW r.1 v g t se im,r.2==0)) else none) else none) else some (mkW m v g t se im,true):=by
 have e0:(k==0)=false:=by simpa using h0
 have e1:(k==1)=false:=by simpa using h1
 have e2:(k==2)=false:=by simpa using h2
 have e3:(k==3)=false:=by simpa using h3
 unfold O_batonlaw35_world_do
 simp only[e0,e1,e2,e3,cond_false]
 rfl
theorem agrees_eq (no:Int) (b:Img) (s:Bool) (tt:Int) (i:Img) (v:Vw) (g:Img) (t:List Chg) (se:List Int) (im:List Img):O_batonlaw35_world_agrees (mkW (mkM no b s tt i) v g t se im) =
 bif (v.1==no) then (F_batonref16_Same (v.2,b)).bind fun r=>some (mkW (mkM no b s tt i) v g t se im,r) else
  bif (s==true) then (bif ((v.1==tt)==true) then (F_batonref16_Same (v.2,i)).bind fun r=>some (mkW (mkM no b s tt i) v g t se im,r) else some (mkW (mkM no b s tt i) v g t se im,false)) else some (mkW (mkM no b s tt i) v g t se im,false):=rfl
end Go.Ideal.Seat
set_option linter.unusedVariables false
set_option linter.unusedSimpArgs false
namespace Go.Ideal.Seat
open Go.Ideal.Plain
structure OkW (N:Nat) (S:Int→Img) (no:Int) (b:Img) (s:Bool) (tt:Int) (i:Img) (v:Vw) (g:Img) (t:List Chg) (se:List Int):Prop where
 ok:mirOk no b s tt i=true
 nN:no≤N
 sb:b=S no
 si:s=true→i=S tt
 g:imageOk g=true
 vi:v.2=S v.1
 vn:v.1=no∨(s=true∧v.1=tt)
 tw:∀e∈t,∃k:Int,0≤k∧(k+1≤no∨(s=true∧k+1=tt))∧e=(k,k+1,encDelta (deltaD (S k) (S (k+1))))∧imageOk (S k)=true∧imageOk (S (k+1))=true
 sw:∀n∈se,0≤n∧n≤v.1
 tl:t.length≤N
 sl:se.length≤N
theorem mir_parts {no:Int} {b:Img} {s:Bool} {tt:Int} {i:Img} (h:mirOk no b s tt i=true):0≤no∧imageOk b=true∧(s=true→tt=no+1∧imageOk i=true):=by
 unfold mirOk at h
 simp only[Bool.and_eq_true,decide_eq_true_eq]at h
 refine⟨h.1.1.1,h.1.2,fun hs=>?_⟩
 subst hs
 have:=h.2
 simp only[if_true,Bool.and_eq_true,decide_eq_true_eq]at this
 exact⟨this.1.2,this.2⟩
theorem OkW.vok {N S no b s tt i v g t se} (h:OkW N S no b s tt i v g t se):imageOk v.2=true:=by
 obtain⟨_,p2,p3⟩:=mir_parts h.ok
 rcases h.vn with e|⟨hs,e⟩
 ·rw[h.vi,e,←h.sb];exact p2
 ·rw[h.vi,e,←h.si hs];exact(p3 hs).2
theorem OkW.up {N S no b s tt i v g t se} (h:OkW N S no b s tt i v g t se) {M:Nat} (hM:N≤M):OkW M S no b s tt i v g t se:=
 { h with nN:=Int.le_trans h.nN (by omega),tl:=Nat.le_trans h.tl hM,sl:=Nat.le_trans h.sl hM }
theorem most_ok {n:Nat} (h:n≤1000):n*41≤most∧n*9≤most:=by
 unfold most
 omega
theorem show_ok {N S no b s tt i v g t se} (h:OkW N S no b s tt i v g t se) {im:List Img} (him:∀e∈im,smallI e∧runesIn e.2.2.1) (n:Int):
 ∃g',O_batonlaw35_world_do (mkW (mkM no b s tt i) v g t se im,0,n)=some (mkW (mkM no b s tt i) v g' t se im,true)∧OkW N S no b s tt i v g' t se:=by
 rw[do_show]
 by_cases a:n≥0
 ·by_cases c:n<((im.length:Nat):Int)
  ·have hl:n.toNat<im.length:=by omega
   obtain⟨e,he⟩:∃e,im[n.toNat]? = some e:=⟨_,List.getElem?_eq_getElem hl⟩
   obtain⟨hs,hr⟩:=him e (List.mem_of_getElem? he)
   have hR:=refImage_eq e (by have:=hs.1;omega) (by have:=hs.2;omega) hr
   have a':(0:Int)≤n:=a
   cases hok:imageOk e with
   |false=>exact⟨g,by simp only[a,a',c,decide_true,beq_self_eq_true,cond_true,he,hR,hok,Option.bind_some,cond_false],h⟩
   |true=>exact⟨e,by simp only[a,a',c,decide_true,beq_self_eq_true,cond_true,he,hR,hok,Option.bind_some],{ h with g:=hok }⟩
  ·exact⟨g,by simp only[a,c,decide_true,decide_false,beq_self_eq_true,cond_true,cond_false,Bool.false_beq,Bool.not_true,Option.bind_some],h⟩
 ·exact⟨g,by simp only[a,decide_false,cond_false,Bool.false_beq,Bool.not_true,Option.bind_some],h⟩
theorem tell_ok {N S no b s tt i v g t se} (h:OkW N S no b s tt i v g t se) (hN:N≤200) (im:List Img) (n:Int):
 ∃S' s' tt' i' t',O_batonlaw35_world_do (mkW (mkM no b s tt i) v g t se im,1,n)=some (mkW (mkM no b s' tt' i') v g t' se im,true)∧OkW (N+1) S' no b s' tt' i' v g t' se∧
  ((s'=false∧s=false∧g=b)∨(s'=true∧(s=false→i'=g)∧∃t0,t'=t0++[(no,tt',encDelta (deltaD (S' no) (S' tt')))])):=by
 obtain⟨p1,p2,p3⟩:=mir_parts h.ok
 have hnN:=h.nN
 have hm:(t.length+1)*(40+1)≤most:=(most_ok (n:=t.length+1) (by have:=h.tl;omega)).1
 rw[do_tell,next_eq no b s tt i g (img_smallI h.g) h.ok]
 simp only[Option.bind_some]
 unfold nextM
 rw[if_pos h.g]
 cases s with
 |true=>
  obtain⟨q1,q2⟩:=p3 rfl
  refine⟨S,true,tt,i,t++[changeM no b tt i],?_,?_,.inr ⟨rfl,fun e=>(by cases e),t,?_⟩⟩
  ·simp only[if_true,beq_self_eq_true,cond_true,List.length_cons,List.length_nil,Nat.zero_add,hm,decide_true,Option.bind_some,show (true==false)=false from rfl,cond_false]
  ·have hs:=h.si rfl
   refine { (h.up (Nat.le_succ N))with tw:=fun e he=>?_,tl:=by simp only[List.length_append,List.length_cons,List.length_nil];have:=h.tl;omega }
   rcases List.mem_append.1 he with he|he
   ·exact h.tw e he
   ·simp only[List.mem_singleton]at he
    subst he
    refine⟨no,p1,.inr ⟨rfl,q1.symm⟩,?_,by rw[←h.sb];exact p2,by rw[←q1,←hs];exact q2⟩
    unfold changeM
    rw[←q1,←hs,←h.sb]
  ·unfold changeM
   rw[←h.sb,←h.si rfl]
 |false=>
  simp only[Bool.false_eq_true,if_false]
  by_cases hgb:g=b
  ·rw[if_pos hgb]
   refine⟨S,false,tt,i,t,?_,h.up (Nat.le_succ N),.inl (by first|exact⟨rfl,rfl,hgb⟩|exact⟨rfl,trivial,hgb⟩|exact⟨trivial,trivial,hgb⟩)⟩
   rfl
  ·rw[if_neg hgb,if_neg (by omega)]
   have hv:v.1=no:=by
    rcases h.vn with e|⟨e,_⟩
    ·exact e
    ·cases e
   have hne:∀k:Int,k≤no→¬k=no+1:=fun k hk e=>by omega
   refine⟨fun k=>if k=no+1 then g else S k,true,no+1,g,t++[changeM no b (no+1) g],?_,?_,.inr ⟨rfl,fun _=>rfl,t,?_⟩⟩
   ·simp only[beq_self_eq_true,cond_true,List.length_cons,List.length_nil,Nat.zero_add,hm,decide_true,Option.bind_some,show (true==false)=false from rfl,cond_false]
   ·refine { ok:=?_,nN:=by omega,sb:=?_,si:=fun _=>(if_pos rfl).symm,g:=h.g,vi:=?_,vn:=.inl hv,tw:=fun e he=>?_,sw:=h.sw,tl:=by simp only[List.length_append,List.length_cons,List.length_nil];have:=h.tl;omega,sl:=Nat.le_succ_of_le h.sl }
    ·unfold mirOk
     simp only[if_true,Bool.and_eq_true,decide_eq_true_eq]
     exact⟨⟨⟨p1,by omega⟩,p2⟩,⟨by omega,trivial⟩,h.g⟩
    ·rw[if_neg (hne no (Int.le_refl _))];exact h.sb
    ·rw[hv,if_neg (hne no (Int.le_refl _)),←hv];exact h.vi
    ·rcases List.mem_append.1 he with he|he
     ·obtain⟨k,k1,k2,k3,k4,k5⟩:=h.tw e he
      have k2:k+1≤no:=by
       rcases k2 with k2|⟨k2,_⟩
       ·exact k2
       ·cases k2
      refine⟨k,k1,.inl k2,?_,?_,?_⟩
      ·rw[if_neg (hne k (by omega)),if_neg (hne (k+1) k2)];exact k3
      ·rw[if_neg (hne k (by omega))];exact k4
      ·rw[if_neg (hne (k+1) k2)];exact k5
     ·simp only[List.mem_singleton]at he
      subst he
      refine⟨no,p1,.inr ⟨rfl,rfl⟩,?_,?_,?_⟩
      ·rw[if_neg (hne no (Int.le_refl _)),if_pos rfl,←h.sb];rfl
      ·rw[if_neg (hne no (Int.le_refl _)),←h.sb];exact p2
      ·rw[if_pos rfl];exact h.g
   ·simp only[if_true]
    rw[if_neg (hne no (Int.le_refl _)),←h.sb];rfl
theorem come_ok {N S no b s tt i v g t se} (h:OkW N S no b s tt i v g t se) (hN:N≤200) (im:List Img) (n:Int):
 ∃v',O_batonlaw35_world_do (mkW (mkM no b s tt i) v g t se im,2,n)=some (mkW (mkM no b s tt i) v' g t se im,true)∧OkW N S no b s tt i v' g t se∧(∀e,0≤n→t[n.toNat]? = some e→e.2.1≤v'.1):=by
 obtain⟨p1,p2,p3⟩:=mir_parts h.ok
 have hnN:=h.nN
 rw[do_come]
 by_cases a:n≥0
 ·have a':(0:Int)≤n:=a
  by_cases c:n<((t.length:Nat):Int)
  ·have hl:n.toNat<t.length:=by omega
   obtain⟨e,he⟩:∃e,t[n.toNat]? = some e:=⟨_,List.getElem?_eq_getElem hl⟩
   obtain⟨k,k1,k2,k3,k4,k5⟩:=h.tw e (List.mem_of_getElem? he)
   have hd:=deltaD_ok k4 k5
   have h4:few4 (deltaD (S k) (S (k+1))):=by have:=(spansOf_ord k4 k5).2.2;unfold few4;show (spansOf _ _).length≤_;omega
   have hin:=encDelta_in hd h4
   obtain⟨s1,s2⟩:=img_small h.vok
   have hva:=viewApply_eq v k (k+1) _ hin (by omega) (by omega) h.vok
   have hk:k+1≤no+1:=by
    rcases k2 with k2|⟨hs,k2⟩
    ·omega
    ·have:=(p3 hs).1;omega
   have hres:∃v',viewApply v k (k+1) (encDelta (deltaD (S k) (S (k+1))))=(v',0)∧OkW N S no b s tt i v' g t se∧k+1≤v'.1:=by
    unfold viewApply
    rw[if_neg (by omega)]
    by_cases hle:k+1≤v.1
    ·rw[if_pos hle];exact⟨v,rfl,h,hle⟩
    ·rw[if_neg hle]
     have hv:v.1=no∧k=no∧s=true∧tt=no+1:=by
      rcases k2 with k2|⟨hs,k2⟩
      ·rcases h.vn with e1|⟨hs,e1⟩
       ·omega
       ·have:=(p3 hs).1;omega
      ·have:=(p3 hs).1
       rcases h.vn with e1|⟨_,e1⟩
       ·exact⟨e1,by omega,hs,this⟩
       ·omega
     obtain⟨v1,rfl,hs,ht⟩:=hv
     rw[if_neg (by simp[v1]),rDelta_enc hd (by have:=h4;unfold few4 at this;omega)]
     refine⟨(k+1,applied v.2 (deltaD (S k) (S (k+1)))),rfl,?_,Int.le_refl _⟩
     have hap:applied v.2 (deltaD (S k) (S (k+1)))=S (k+1):=by
      rw[h.vi,v1];exact applied_back k4 k5
     exact { h with vi:=hap,vn:=.inr ⟨hs,ht.symm⟩,sw:=fun m hm=>⟨(h.sw m hm).1,by have:=(h.sw m hm).2;show m≤k+1;omega⟩ }
   obtain⟨v',e1,e2,e3⟩:=hres
   refine⟨v',?_,e2,fun e' _ he'=>?_⟩
   ·rw[e1]at hva
    simp only[a,a',c,decide_true,beq_self_eq_true,cond_true,hl,he,k3,Option.bind_some,hva]
   ·rw[he]at he';injection he' with he';subst he';rw[k3];exact e3
  ·refine⟨v,by simp only[a,c,decide_true,decide_false,beq_self_eq_true,cond_true,cond_false,Option.bind_some],h,fun e hn he=>?_⟩
   have:=(List.getElem?_eq_some_iff.1 he).1
   omega
 ·exact⟨v,by simp only[a,decide_false,cond_false,Bool.false_beq,Bool.not_true,Option.bind_some],h,fun e hn _=>absurd hn a⟩
theorem see_ok {N S no b s tt i v g t se} (h:OkW N S no b s tt i v g t se) (hN:N≤200) (im:List Img) (n:Int):
 O_batonlaw35_world_do (mkW (mkM no b s tt i) v g t se im,3,n)=some (mkW (mkM no b s tt i) v g t (se++[v.1]) im,true)∧OkW (N+1) S no b s tt i v g t (se++[v.1]):=by
 obtain⟨p1,p2,p3⟩:=mir_parts h.ok
 have hm:(se.length+1)*(8+1)≤most:=(most_ok (n:=se.length+1) (by have:=h.sl;omega)).2
 rw[do_see]
 refine⟨by simp only[List.length_cons,List.length_nil,Nat.zero_add,hm,decide_true,cond_true],?_⟩
 refine { (h.up (Nat.le_succ N))with sw:=fun m hm=>?_,sl:=by simp only[List.length_append,List.length_cons,List.length_nil];have:=h.sl;omega }
 rcases List.mem_append.1 hm with hm|hm
 ·exact h.sw m hm
 ·simp only[List.mem_singleton]at hm
  subst hm
  refine⟨?_,Int.le_refl _⟩
  rcases h.vn with e|⟨hs,e⟩
  ·omega
  ·have:=(p3 hs).1;omega
theorem hear_ok {N S no b s tt i v g t se} (h:OkW N S no b s tt i v g t se) (im:List Img) (k n:Int) (h0:k≠0) (h1:k≠1) (h2:k≠2) (h3:k≠3):
 ∃no' b' s' tt' i',O_batonlaw35_world_do (mkW (mkM no b s tt i) v g t se im,k,n)=some (mkW (mkM no' b' s' tt' i') v g t se im,true)∧OkW (N+1) S no' b' s' tt' i' v g t se∧
  (s=false→no'=no∧b'=b∧s'=false)∧(∀e,0≤n→se[n.toNat]? = some e→s=true→e=tt→s'=false∧b'=i):=by
 obtain⟨p1,p2,p3⟩:=mir_parts h.ok
 have hnN:=h.nN
 rw[do_hear _ _ _ _ _ _ k n h0 h1 h2 h3]
 by_cases a:n≥0
 ·have a':(0:Int)≤n:=a
  by_cases c:n<((se.length:Nat):Int)
  ·have hl:n.toNat<se.length:=by omega
   obtain⟨e,he⟩:∃e,se[n.toNat]? = some e:=⟨_,List.getElem?_eq_getElem hl⟩
   obtain⟨k1,k2⟩:=h.sw e (List.mem_of_getElem? he)
   simp only[a,a',c,decide_true,beq_self_eq_true,cond_true,hl,he,Option.bind_some,ack_eq]
   unfold ackM
   by_cases hc:s=true∧e=tt
   ·obtain⟨hs,rfl⟩:=hc
    obtain⟨q1,q2⟩:=p3 hs
    rw[if_pos ⟨hs,rfl⟩]
    refine⟨e,i,false,0,zeroI,rfl,?_,fun hf=>(by rw[hs]at hf;cases hf),fun _ _ _ _ _=>⟨rfl,rfl⟩⟩
    refine { ok:=?_,nN:=by omega,sb:=h.si hs,si:=fun hf=>(by cases hf),g:=h.g,vi:=h.vi,vn:=.inl ?_,tw:=fun x hx=>?_,sw:=h.sw,tl:=Nat.le_succ_of_le h.tl,sl:=Nat.le_succ_of_le h.sl }
    ·have hok:=h.ok
     unfold mirOk at hok ⊢
     rw[hs]at hok
     simp only[if_true,Bool.and_eq_true,decide_eq_true_eq]at hok
     simp only[Bool.false_eq_true,if_false,and_self,decide_true,Bool.and_true,Bool.and_eq_true,decide_eq_true_eq]
     exact⟨by omega,q2⟩
    ·rcases h.vn with e1|⟨_,e1⟩
     ·omega
     ·exact e1
    ·obtain⟨j,j1,j2,j3⟩:=h.tw x hx
     refine⟨j,j1,.inl ?_,j3⟩
     rcases j2 with j2|⟨_,j2⟩<;>omega
   ·rw[if_neg hc,if_neg (by
     rintro (hh|hh)
     ·omega
     ·rcases h.vn with e1|⟨hs,e1⟩
      ·omega
      ·have:=(p3 hs).1
       exact hc ⟨hs,by omega⟩)]
    refine⟨no,b,s,tt,i,rfl,h.up (Nat.le_succ N),fun hf=>⟨rfl,rfl,hf⟩,fun e' _ he' hs het=>?_⟩
    have hee:e=e':=by first|injection he'|(rw[he]at he';injection he')
    subst hee
    exact absurd ⟨hs,het⟩ hc
  ·refine⟨no,b,s,tt,i,by simp only[a,c,decide_true,decide_false,beq_self_eq_true,cond_true,cond_false,Option.bind_some],h.up (Nat.le_succ N),fun hf=>⟨rfl,rfl,hf⟩,fun e hn he=>?_⟩
   have:=(List.getElem?_eq_some_iff.1 he).1
   omega
 ·exact⟨no,b,s,tt,i,by simp only[a,decide_false,cond_false,Bool.false_beq,Bool.not_true,Option.bind_some],h.up (Nat.le_succ N),fun hf=>⟨rfl,rfl,hf⟩,fun e hn _=>absurd hn a⟩
theorem agrees_ok {N S no b s tt i v g t se} (h:OkW N S no b s tt i v g t se) (im:List Img):O_batonlaw35_world_agrees (mkW (mkM no b s tt i) v g t se im)=some (mkW (mkM no b s tt i) v g t se im,true):=by
 rw[agrees_eq]
 obtain⟨s1,s2⟩:=img_small h.vok
 have hsm:=imgSame_refl v.2 (by omega)
 by_cases hv:v.1=no
 ·have:b=v.2:=by rw[h.sb,h.vi,hv]
  simp only[hv,beq_self_eq_true,cond_true,this,hsm,Option.bind_some]
 ·have hne:(v.1==no)=false:=by simpa using hv
  rcases h.vn with e|⟨hs,e⟩
  ·exact absurd e hv
  ·have:i=v.2:=by rw[h.si hs,h.vi,e]
   subst hs
   rw[hne,this,e]
   simp only[cond_false,beq_self_eq_true,cond_true,hsm,Option.bind_some]
end Go.Ideal.Seat
set_option linter.unusedVariables false
set_option linter.unusedSimpArgs false
set_option maxRecDepth 100000
namespace Go.Ideal.Seat
open Go.Ideal.Plain
abbrev Wd:=Int×Int×Int×List Cell×Int×Int×Bool×List UInt8×Int×Bool×Int×Int×Int×List Cell×Int×Int×Bool×List UInt8×Int×Int×Int×Int×List Cell×Int×Int×Bool×List UInt8×Int×Int×Int×List Cell×Int×Int×Bool×List UInt8×Int×List Chg×List Int×List Img
def mkY {α:Type} (w:Wd) (c:α):=(w.1,w.2.1,w.2.2.1,w.2.2.2.1,w.2.2.2.2.1,w.2.2.2.2.2.1,w.2.2.2.2.2.2.1,w.2.2.2.2.2.2.2.1,w.2.2.2.2.2.2.2.2.1,w.2.2.2.2.2.2.2.2.2.1,w.2.2.2.2.2.2.2.2.2.2.1,w.2.2.2.2.2.2.2.2.2.2.2.1,w.2.2.2.2.2.2.2.2.2.2.2.2.1,w.2.2.2.2.2.2.2.2.2.2.2.2.2.1,w.2.2.2.2.2.2.2.2.2.2.2.2.2.2.1,w.2.2.2.2.2.2.2.2.2.2.2.2.2.2.2.1,w.2.2.2.2.2.2.2.2.2.2.2.2.2.2.2.2.1,w.2.2.2.2.2.2.2.2.2.2.2.2.2.2.2.2.2.1,w.2.2.2.2.2.2.2.2.2.2.2.2.2.2.2.2.2.2.1,w.2.2.2.2.2.2.2.2.2.2.2.2.2.2.2.2.2.2.2.1,w.2.2.2.2.2.2.2.2.2.2.2.2.2.2.2.2.2.2.2.2.1,w.2.2.2.2.2.2.2.2.2.2.2.2.2.2.2.2.2.2.2.2.2.1,w.2.2.2.2.2.2.2.2.2.2.2.2.2.2.2.2.2.2.2.2.2.2.1,w.2.2.2.2.2.2.2.2.2.2.2.2.2.2.2.2.2.2.2.2.2.2.2.1,w.2.2.2.2.2.2.2.2.2.2.2.2.2.2.2.2.2.2.2.2.2.2.2.2.1,w.2.2.2.2.2.2.2.2.2.2.2.2.2.2.2.2.2.2.2.2.2.2.2.2.2.1,w.2.2.2.2.2.2.2.2.2.2.2.2.2.2.2.2.2.2.2.2.2.2.2.2.2.2.1,w.2.2.2.2.2.2.2.2.2.2.2.2.2.2.2.2.2.2.2.2.2.2.2.2.2.2.2.1,w.2.2.2.2.2.2.2.2.2.2.2.2.2.2.2.2.2.2.2.2.2.2.2.2.2.2.2.2.1,w.2.2.2.2.2.2.2.2.2.2.2.2.2.2.2.2.2.2.2.2.2.2.2.2.2.2.2.2.2.1,w.2.2.2.2.2.2.2.2.2.2.2.2.2.2.2.2.2.2.2.2.2.2.2.2.2.2.2.2.2.2.1,w.2.2.2.2.2.2.2.2.2.2.2.2.2.2.2.2.2.2.2.2.2.2.2.2.2.2.2.2.2.2.2.1,w.2.2.2.2.2.2.2.2.2.2.2.2.2.2.2.2.2.2.2.2.2.2.2.2.2.2.2.2.2.2.2.2.1,w.2.2.2.2.2.2.2.2.2.2.2.2.2.2.2.2.2.2.2.2.2.2.2.2.2.2.2.2.2.2.2.2.2.1,w.2.2.2.2.2.2.2.2.2.2.2.2.2.2.2.2.2.2.2.2.2.2.2.2.2.2.2.2.2.2.2.2.2.2.1,w.2.2.2.2.2.2.2.2.2.2.2.2.2.2.2.2.2.2.2.2.2.2.2.2.2.2.2.2.2.2.2.2.2.2.2.1,w.2.2.2.2.2.2.2.2.2.2.2.2.2.2.2.2.2.2.2.2.2.2.2.2.2.2.2.2.2.2.2.2.2.2.2.2.1,w.2.2.2.2.2.2.2.2.2.2.2.2.2.2.2.2.2.2.2.2.2.2.2.2.2.2.2.2.2.2.2.2.2.2.2.2.2.1,w.2.2.2.2.2.2.2.2.2.2.2.2.2.2.2.2.2.2.2.2.2.2.2.2.2.2.2.2.2.2.2.2.2.2.2.2.2.2,c)
abbrev Wy (α:Type):=Int×Int×Int×List Cell×Int×Int×Bool×List UInt8×Int×Bool×Int×Int×Int×List Cell×Int×Int×Bool×List UInt8×Int×Int×Int×Int×List Cell×Int×Int×Bool×List UInt8×Int×Int×Int×List Cell×Int×Int×Bool×List UInt8×Int×List Chg×List Int×List Img×α
def unY {α:Type} (v:Wy α):Wd:=(v.1,v.2.1,v.2.2.1,v.2.2.2.1,v.2.2.2.2.1,v.2.2.2.2.2.1,v.2.2.2.2.2.2.1,v.2.2.2.2.2.2.2.1,v.2.2.2.2.2.2.2.2.1,v.2.2.2.2.2.2.2.2.2.1,v.2.2.2.2.2.2.2.2.2.2.1,v.2.2.2.2.2.2.2.2.2.2.2.1,v.2.2.2.2.2.2.2.2.2.2.2.2.1,v.2.2.2.2.2.2.2.2.2.2.2.2.2.1,v.2.2.2.2.2.2.2.2.2.2.2.2.2.2.1,v.2.2.2.2.2.2.2.2.2.2.2.2.2.2.2.1,v.2.2.2.2.2.2.2.2.2.2.2.2.2.2.2.2.1,v.2.2.2.2.2.2.2.2.2.2.2.2.2.2.2.2.2.1,v.2.2.2.2.2.2.2.2.2.2.2.2.2.2.2.2.2.2.1,v.2.2.2.2.2.2.2.2.2.2.2.2.2.2.2.2.2.2.2.1,v.2.2.2.2.2.2.2.2.2.2.2.2.2.2.2.2.2.2.2.2.1,v.2.2.2.2.2.2.2.2.2.2.2.2.2.2.2.2.2.2.2.2.2.1,v.2.2.2.2.2.2.2.2.2.2.2.2.2.2.2.2.2.2.2.2.2.2.1,v.2.2.2.2.2.2.2.2.2.2.2.2.2.2.2.2.2.2.2.2.2.2.2.1,v.2.2.2.2.2.2.2.2.2.2.2.2.2.2.2.2.2.2.2.2.2.2.2.2.1,v.2.2.2.2.2.2.2.2.2.2.2.2.2.2.2.2.2.2.2.2.2.2.2.2.2.1,v.2.2.2.2.2.2.2.2.2.2.2.2.2.2.2.2.2.2.2.2.2.2.2.2.2.2.1,v.2.2.2.2.2.2.2.2.2.2.2.2.2.2.2.2.2.2.2.2.2.2.2.2.2.2.2.1,v.2.2.2.2.2.2.2.2.2.2.2.2.2.2.2.2.2.2.2.2.2.2.2.2.2.2.2.2.1,v.2.2.2.2.2.2.2.2.2.2.2.2.2.2.2.2.2.2.2.2.2.2.2.2.2.2.2.2.2.1,v.2.2.2.2.2.2.2.2.2.2.2.2.2.2.2.2.2.2.2.2.2.2.2.2.2.2.2.2.2.2.1,v.2.2.2.2.2.2.2.2.2.2.2.2.2.2.2.2.2.2.2.2.2.2.2.2.2.2.2.2.2.2.2.1,v.2.2.2.2.2.2.2.2.2.2.2.2.2.2.2.2.2.2.2.2.2.2.2.2.2.2.2.2.2.2.2.2.1,v.2.2.2.2.2.2.2.2.2.2.2.2.2.2.2.2.2.2.2.2.2.2.2.2.2.2.2.2.2.2.2.2.2.1,v.2.2.2.2.2.2.2.2.2.2.2.2.2.2.2.2.2.2.2.2.2.2.2.2.2.2.2.2.2.2.2.2.2.2.1,v.2.2.2.2.2.2.2.2.2.2.2.2.2.2.2.2.2.2.2.2.2.2.2.2.2.2.2.2.2.2.2.2.2.2.2.1,v.2.2.2.2.2.2.2.2.2.2.2.2.2.2.2.2.2.2.2.2.2.2.2.2.2.2.2.2.2.2.2.2.2.2.2.2.1,v.2.2.2.2.2.2.2.2.2.2.2.2.2.2.2.2.2.2.2.2.2.2.2.2.2.2.2.2.2.2.2.2.2.2.2.2.2.1,v.2.2.2.2.2.2.2.2.2.2.2.2.2.2.2.2.2.2.2.2.2.2.2.2.2.2.2.2.2.2.2.2.2.2.2.2.2.2.1)
theorem invLoop {A S X:Type} (n:Nat) (mk:A→Int→S) (fin:A→X) (inv:Nat→A→Prop) {F:S→Option (S⊕X)} (h1:∀a i,i<n→inv i a→∃a',F (mk a (i:Int))=some (.inl (mk a' ((i+1:Nat):Int)))∧inv (i+1) a')
 (h2:∀a,inv n a→F (mk a (n:Int))=some (.inr (fin a))):∀(k i:Nat) (a:A),i+k=n→inv i a→∃a',inv n a'∧iterL F (mk a (i:Int))=some (fin a')
 |0,i,a,hn,hi=>by
  have:i=n:=by omega
  subst this
  exact⟨a,hi,iterL_inr (h2 a hi)⟩
 |k+1,i,a,hn,hi=>by
  obtain⟨a1,e1,e2⟩:=h1 a i (by omega) hi
  obtain⟨a',e3,e4⟩:=invLoop n mk fin inv h1 h2 k (i+1) a1 (by omega) e2
  exact⟨a',e3,(iterL_inl e1).trans e4⟩
theorem bindLoop {A S X:Type} (n:Nat) (mk:A→Int→S) (fin:A→X) (inv:Nat→A→Prop) {F:S→Option (S⊕X)} {K:X→Option Bool} {a:A} (h0:inv 0 a)
 (h1:∀a i,i<n→inv i a→∃a',F (mk a (i:Int))=some (.inl (mk a' ((i+1:Nat):Int)))∧inv (i+1) a')
 (h2:∀a,inv n a→F (mk a (n:Int))=some (.inr (fin a))) (hK:∀a,inv n a→K (fin a)=some true):(iterL F (mk a 0)).bind K=some true:=by
 obtain⟨a',e1,e2⟩:=invLoop n mk fin inv h1 h2 n 0 a (by omega) h0
 have e2:iterL F (mk a 0)=some (fin a'):=e2
 rw[e2]
 exact hK a' e1
theorem fewLoop {X E:Type} {l:List E} (p:E→Bool) {F:Int→Option (Int⊕(Bool⊕X))} {K:Bool⊕X→Option Bool} {z:X} (h1:∀(i:Nat) e,l[i]? = some e→F i=some (if p e=true then .inl ((i+1:Nat):Int) else .inr (.inl true)))
 (h2:F (l.length:Int)=some (.inr (.inr z))) (hK0:K (.inl true)=some true) (hK:(∀e∈l,p e=true)→K (.inr z)=some true):(iterL F 0).bind K=some true:=by
 have key:∀(k i:Nat),i+k=l.length→(∀j e,j<i→l[j]? = some e→p e=true)→(iterL F (i:Int)).bind K=some true:=by
  intro k
  induction k with
  |zero=>
   intro i hi hp
   have:i=l.length:=by omega
   subst this
   rw[iterL_inr h2]
   refine hK fun e he=>?_
   obtain⟨j,hj,hje⟩:=List.getElem_of_mem he
   exact hp j e hj (by rw[List.getElem?_eq_getElem hj,hje])
  |succ k ih=>
   intro i hi hp
   have hl:i<l.length:=by omega
   have he:=List.getElem?_eq_getElem hl
   have h3:=h1 i _ he
   by_cases hpe:p l[i]=true
   ·rw[if_pos hpe]at h3
    rw[iterL_inl h3]
    refine ih (i+1) (by omega) fun j e hj hje=>?_
    by_cases hji:j=i
    ·subst hji;rw[he]at hje;injection hje with hje;rw[←hje];exact hpe
    ·exact hp j e (by omega) hje
   ·rw[if_neg hpe]at h3
    rw[iterL_inr h3]
    exact hK0
 exact key l.length 0 (by omega) (fun j e hj=>absurd hj (by omega))
def WOk (im:List Img) (N:Nat) (w:Wd):Prop:=∃S no b s tt i v g t se,w=mkW (mkM no b s tt i) v g t se im∧OkW N S no b s tt i v g t se
theorem step_ok {im:List Img} (him:∀e∈im,smallI e∧runesIn e.2.2.1) {N:Nat} (hN:N≤150) {w:Wd} (h:WOk im N w) (o:Int×Int):∃w',O_batonlaw35_world_do (w,o)=some (w',true)∧WOk im (N+1) w'∧O_batonlaw35_world_agrees w'=some (w',true):=by
 obtain⟨S,no,b,s,tt,i,v,g,t,se,rfl,hw⟩:=h
 obtain⟨k,n⟩:=o
 by_cases h0:k=0
 ·subst h0
  obtain⟨g',e1,e2⟩:=show_ok hw him n
  exact⟨_,e1,⟨_,_,_,_,_,_,_,_,_,_,rfl,e2.up (Nat.le_succ N)⟩,agrees_ok e2 im⟩
 by_cases h1:k=1
 ·subst h1
  obtain⟨S',s',tt',i',t',e1,e2,_⟩:=tell_ok hw (by omega) im n
  exact⟨_,e1,⟨_,_,_,_,_,_,_,_,_,_,rfl,e2⟩,agrees_ok e2 im⟩
 by_cases h2:k=2
 ·subst h2
  obtain⟨v',e1,e2,_⟩:=come_ok hw (by omega) im n
  exact⟨_,e1,⟨_,_,_,_,_,_,_,_,_,_,rfl,e2.up (Nat.le_succ N)⟩,agrees_ok e2 im⟩
 by_cases h3:k=3
 ·subst h3
  obtain⟨e1,e2⟩:=see_ok hw (by omega) im n
  exact⟨_,e1,⟨_,_,_,_,_,_,_,_,_,_,rfl,e2⟩,agrees_ok e2 im⟩
 obtain⟨no',b',s',tt',i',e1,e2,_⟩:=hear_ok hw im k n h0 h1 h2 h3
 exact⟨_,e1,⟨_,_,_,_,_,_,_,_,_,_,rfl,e2⟩,agrees_ok e2 im⟩
def ROk (im:List Img) (N:Nat) (j:Nat) (w:Wd):Prop:=∃S no b s tt i v g t se,w=mkW (mkM no b s tt i) v g t se im∧OkW (N+4*j) S no b s tt i v g t se∧(1≤j→s=false)∧(2≤j→b=g)
def tOf (w:Wd):List Chg:=w.2.2.2.2.2.2.2.2.2.2.2.2.2.2.2.2.2.2.2.2.2.2.2.2.2.2.2.2.2.2.2.2.2.2.2.2.1
def seOf (w:Wd):List Int:=w.2.2.2.2.2.2.2.2.2.2.2.2.2.2.2.2.2.2.2.2.2.2.2.2.2.2.2.2.2.2.2.2.2.2.2.2.2.1
theorem round_ok {im:List Img} {N j:Nat} (hN:N+4*j≤150) {w:Wd} (h:ROk im N j w):∃w1 w2 w3 w4,O_batonlaw35_world_do (w,1,0)=some (w1,true)∧O_batonlaw35_world_do (w1,2,IntKind.wrap .i64 ((((tOf w1).length:Nat):Int)-1))=some (w2,true)∧
 O_batonlaw35_world_do (w2,3,0)=some (w3,true)∧O_batonlaw35_world_do (w3,4,IntKind.wrap .i64 ((((seOf w3).length:Nat):Int)-1))=some (w4,true)∧O_batonlaw35_world_agrees w4=some (w4,true)∧ROk im N (j+1) w4:=by
 obtain⟨S,no,b,s,tt,i,v,g,t,se,rfl,hw,hr1,hr2⟩:=h
 obtain⟨S1,s1,tt1,i1,t1,e1,o1,c1⟩:=tell_ok hw (by omega) im 0
 have l1:=o1.tl
 have wr1:IntKind.wrap .i64 (((t1.length:Nat):Int)-1)=((t1.length:Nat):Int)-1:=w64 (by omega) (by omega)
 obtain⟨v2,e2,o2,c2⟩:=come_ok o1 (by omega) im (((t1.length:Nat):Int)-1)
 obtain⟨e3,o3⟩:=see_ok o2 (by omega) im 0
 have l3:=o3.sl
 have wr3:IntKind.wrap .i64 ((((se++[v2.1]).length:Nat):Int)-1)=(((se++[v2.1]).length:Nat):Int)-1:=w64 (by omega) (by omega)
 obtain⟨no4,b4,s4,tt4,i4,e4,o4,c4,c5⟩:=hear_ok o3 im 4 ((((se++[v2.1]).length:Nat):Int)-1) (by decide) (by decide) (by decide) (by decide)
 have hlast:(se++[v2.1])[((((se++[v2.1]).length:Nat):Int)-1).toNat]? = some v2.1:=by
  have:((((se++[v2.1]).length:Nat):Int)-1).toNat=se.length:=by simp
  rw[this];simp
 have hfin:s4=false∧(s=false→b4=g):=by
  rcases c1 with ⟨hs1,hs,hg⟩|⟨hs1,hi,t0,ht⟩
  ·obtain⟨_,q2,q3⟩:=c4 hs1
   exact⟨q3,fun _=>by rw[q2,hg]⟩
  ·have ht1:=((mir_parts o1.ok).2.2 hs1).1
   have hle:tt1≤v2.1:=by
    have:=c2 (no,tt1,encDelta (deltaD (S1 no) (S1 tt1))) (by rw[ht];simp) (by
     have:(((t1.length:Nat):Int)-1).toNat=t0.length:=by rw[ht];simp
     rw[this,ht];simp)
    exact this
   have hv:v2.1=tt1:=by
    rcases o2.vn with e|⟨_,e⟩
    ·omega
    ·exact e
   obtain⟨q1,q2⟩:=c5 v2.1 (by simp) hlast hs1 hv
   exact⟨q1,fun hs=>by rw[q2,hi hs]⟩
 refine⟨_,_,_,_,e1,?_,e3,?_,agrees_ok o4 im,?_⟩
 ·show O_batonlaw35_world_do (_,2,IntKind.wrap .i64 (((t1.length:Nat):Int)-1))=_
  rw[wr1];exact e2
 ·show O_batonlaw35_world_do (_,4,IntKind.wrap .i64 ((((se++[v2.1]).length:Nat):Int)-1))=_
  rw[wr3];exact e4
 ·exact⟨_,_,_,_,_,_,_,_,_,_,rfl,o4.up (by omega),fun _=>hfin.1,fun hj=>hfin.2 (hr1 (by omega))⟩
end Go.Ideal.Seat
set_option linter.unusedVariables false
set_option linter.unusedSimpArgs false
set_option maxRecDepth 100000
namespace Go.Ideal.Seat
open Go.Ideal.Plain
theorem guardBind {G R:Option Bool} (h:∃b,G=some b∧(b=false→R=some true)):(G.bind fun v=>bif v then some true else R)=some true:=by
 obtain⟨b,rfl,h⟩:=h
 cases b with
 |true=>rfl
 |false=>exact h rfl
theorem guard_eq (p q:Int) (im:List Img) (l:List (Int×Int)):
 (bif ((decide (((im.length:Nat):Int)>6))==false) then (bif ((decide (((l.length:Nat):Int)>60))==false) then ((([p,q]:List Int)[0]?).bind fun e219=>((([p,q]:List Int)[1]?).bind fun e220=>((F_batonref10_Size (e219,e220)).bind fun r221=>(bif ((!r221)==false) then ((([p,q]:List Int)[0]?).bind fun e222=>(bif ((decide (e222>6))==false) then ((([p,q]:List Int)[1]?).bind fun e223=>(some (decide (e223>12)))) else (some true))) else (some true))))) else (some true)) else (some true)) =
   some (decide (((im.length:Nat):Int)>6)||(decide (((l.length:Nat):Int)>60)||(!sizeOk p q||(decide (p>6)||decide (q>12))))):=by
 have g0:([p,q]:List Int)[0]? = some p:=rfl
 have g1:([p,q]:List Int)[1]? = some q:=rfl
 simp only[g0,g1,Option.bind_some,refSize_eq]
 cases decide (((im.length:Nat):Int)>6)<;>cases decide (((l.length:Nat):Int)>60)<;>cases sizeOk p q<;>cases decide (p>6)<;>cases decide (q>12)<;>rfl
theorem mirNew_pos {p q:Int} (h:sizeOk p q=true):O_mirror_New (p,q)=some (mkM 0 (blankI p q) false 0 zeroI,0):=by rw[mirNew_eq,if_pos h]
theorem viewNew_pos {p q:Int} (h:sizeOk p q=true):O_view_New (p,q)=some ((0,blankI p q),0):=by rw[viewNew_eq,if_pos h]
theorem blankI_ok {p q:Int} (h:sizeOk p q=true):imageOk (blankI p q)=true:=by
 have hg:=grid0_ok h
 have hs:=h
 unfold sizeOk at hs
 unfold imageOk blankI
 simp only[Bool.and_eq_true,decide_eq_true_eq]at hs ⊢
 have e:(p,q,(grid0 p q).2.2)=grid0 p q:=rfl
 simp[e,hg,titleOk]
 refine⟨by omega,?_⟩
 exact⟨Signs.nil,rfl⟩
theorem view_agrees_law (x:List Int×List Img×List (Int×Int)) (h2:x.1.length=2) (hr:∀g∈x.2.1,runesIn g.2.2.1):F_batonlaw35_ViewAgrees x=some true:=by
 obtain⟨two,im,l⟩:=x
 obtain⟨p,q,rfl⟩:∃p q,two=[p,q]:=by
  match two,h2 with
  |[p,q],_=>exact⟨p,q,rfl⟩
 have g0:([p,q]:List Int)[0]? = some p:=rfl
 have g1:([p,q]:List Int)[1]? = some q:=rfl
 unfold F_batonlaw35_ViewAgrees
 rw[show F_batonlaw35_awake ()=some true from rfl,Option.bind_some,Bool.not_true,cond_false]
 refine guardBind ⟨_,guard_eq p q im l,fun hb=>?_⟩
 simp only[Bool.or_eq_false_iff,decide_eq_false_iff_not,Bool.not_eq_false']at hb
 obtain⟨_,hl,hS,_,_⟩:=hb
 refine fewLoop (z:=(((im.length:Nat):Int),false)) (l:=im) (fun e=>decide (e.2.2.1.length≤200)&&decide (e.2.2.2.2.2.2.1.length≤200)) (fun i e he=>?_) ?_ rfl (fun hf=>?_)
 ·have hi:i<im.length:=(List.getElem?_eq_some_iff.1 he).1
  have c1:((i:Int)<((im.length:Nat):Int)):=by omega
  have c2:(0:Int)≤(i:Int):=by omega
  have c3:IntKind.wrap .i64 ((i:Int)+1)=((i+1:Nat):Int):=w64 (by omega) (by omega)
  have c4:((i:Int)).toNat=i:=by omega
  simp only[c1,c2,c3,c4,decide_true,cond_true,he,Option.bind_some,few_eq]
  cases (decide (e.2.2.1.length≤200)&&decide (e.2.2.2.2.2.2.1.length≤200))<;>rfl
 ·have c1:¬(((im.length:Nat):Int)<((im.length:Nat):Int)):=by omega
  simp only[c1,decide_false,cond_false]
 ·have him:∀e∈im,smallI e∧runesIn e.2.2.1:=fun e he=>by
   have:=hf e he
   simp only[Bool.and_eq_true,decide_eq_true_eq]at this
   exact⟨⟨by omega,by omega⟩,hr e he⟩
  have hbl:=blankI_ok hS
  have hll:l.length≤60:=by omega
  have h0:WOk im 0 (mkW (mkM 0 (blankI p q) false 0 zeroI) (0,blankI p q) (blankI p q) [] [] im):=by
   refine⟨fun _=>blankI p q,0,blankI p q,false,0,zeroI,(0,blankI p q),blankI p q,[],[],rfl,?_⟩
   refine { ok:=?_,nN:=by omega,sb:=rfl,si:=fun hf=>(by cases hf),g:=hbl,vi:=rfl,vn:=.inl rfl,tw:=fun e he=>(by cases he),sw:=fun e he=>(by cases he),tl:=Nat.le_refl _,sl:=Nat.le_refl _ }
   unfold mirOk
   simp[hbl]
  show ((([p,q]:List Int)[0]?).bind _)=some true
  rw[g0,Option.bind_some,g1,Option.bind_some,mirNew_pos hS,Option.bind_some,Option.bind_some,Option.bind_some,viewNew_pos hS,Option.bind_some]
  rw[show (bif ((((mkM 0 (blankI p q) false 0 zeroI),(0:Int)).2 != 0)==false) then some ((((0:Int),blankI p q),(0:Int)).2 != 0) else some true)=some false from rfl,Option.bind_some,cond_false]
  refine bindLoop (A:=Wd) l.length (fun w k=>mkY w k) (fun w=>Sum.inr (mkY w (((l.length:Nat):Int),false))) (fun i w=>WOk im i w) h0 (fun w i hi hw=>?_) (fun w hw=>?_) (fun w hw=>?_)
  ·obtain⟨w',e1,e2,e3⟩:=step_ok him (by omega) hw l[i]
   refine⟨w',?_,e2⟩
   have he:l[i]? = some l[i]:=List.getElem?_eq_getElem hi
   have c1:((i:Int)<((l.length:Nat):Int)):=by omega
   have c2:(0:Int)≤(i:Int):=by omega
   have c3:IntKind.wrap .i64 ((i:Int)+1)=((i+1:Nat):Int):=w64 (by omega) (by omega)
   have c4:((i:Int)).toNat=i:=by omega
   show (bif decide ((i:Int)<((l.length:Nat):Int)) then ((bif decide (0≤(i:Int)) then ((l[((i:Int)).toNat]?).bind fun e=>(O_batonlaw35_world_do (w,e)).bind fun r=>bif ((!r.2)==false) then ((O_batonlaw35_world_agrees r.1).bind fun q=>some (mkY q.1 (!q.2))) else some (mkY r.1 true)) else none).bind fun(v:Wy Bool)=>bif v.2.2.2.2.2.2.2.2.2.2.2.2.2.2.2.2.2.2.2.2.2.2.2.2.2.2.2.2.2.2.2.2.2.2.2.2.2.2.2 then (some (Sum.inr (Sum.inl false)):Option (Wy Int⊕(Bool⊕Wy (Int×Bool)))) else some (Sum.inl (mkY (unY v) (IntKind.wrap .i64 ((i:Int)+1))))) else some (Sum.inr (Sum.inr (mkY w ((i:Int),decide ((i:Int)<((l.length:Nat):Int)))))))=_
   simp only[c1,c2,c3,c4,decide_true,cond_true,he,Option.bind_some,e1,e3,Bool.not_true,beq_self_eq_true]
   rfl
  ·have c1:¬(((l.length:Nat):Int)<((l.length:Nat):Int)):=by omega
   show (bif decide (((l.length:Nat):Int)<((l.length:Nat):Int)) then _ else some (Sum.inr (Sum.inr (mkY w (((l.length:Nat):Int),decide (((l.length:Nat):Int)<((l.length:Nat):Int)))))))=_
   simp only[c1,decide_false,cond_false]
  ·obtain⟨S,no,b,s,tt,i,v,g,t,se,rfl,hw⟩:=hw
   have h0:ROk im l.length 0 (mkW (mkM no b s tt i) v g t se im):=⟨S,no,b,s,tt,i,v,g,t,se,rfl,hw,fun h=>absurd h (by omega),fun h=>absurd h (by omega)⟩
   show (iterL _ (mkY (mkW (mkM no b s tt i) v g t se im) (0:Int))).bind _=some true
   refine bindLoop (A:=Wd) 2 (fun w k=>mkY w k) (fun w=>Sum.inr (mkY w ((2:Int),false))) (fun i w=>ROk im l.length i w) h0 (fun w j hj hw=>?_) (fun w hw=>?_) (fun w hw=>?_)
   ·obtain⟨w1,w2,w3,w4,e1,e2,e3,e4,e5,e6⟩:=round_ok (by omega) hw
    refine⟨w4,?_,e6⟩
    have c1:((j:Int)<2):=by omega
    have c3:IntKind.wrap .i64 ((j:Int)+1)=((j+1:Nat):Int):=w64 (by omega) (by omega)
    show (bif decide ((j:Int)<2) then (((O_batonlaw35_world_do (w,1,0)).bind fun r1=>bif ((!r1.2)==false) then ((O_batonlaw35_world_do (r1.1,2,IntKind.wrap .i64 ((((tOf r1.1).length:Nat):Int)-1))).bind fun r2=>bif ((!r2.2)==false) then ((O_batonlaw35_world_do (r2.1,3,0)).bind fun r3=>bif ((!r3.2)==false) then ((O_batonlaw35_world_do (r3.1,4,IntKind.wrap .i64 ((((seOf r3.1).length:Nat):Int)-1))).bind fun r4=>bif ((!r4.2)==false) then ((O_batonlaw35_world_agrees r4.1).bind fun r5=>some (mkY r5.1 (!r5.2))) else some (mkY r4.1 true)) else some (mkY r3.1 true)) else some (mkY r2.1 true)) else some (mkY r1.1 true)).bind fun(v:Wy Bool)=>bif v.2.2.2.2.2.2.2.2.2.2.2.2.2.2.2.2.2.2.2.2.2.2.2.2.2.2.2.2.2.2.2.2.2.2.2.2.2.2.2 then (some (Sum.inr (Sum.inl false)):Option (Wy Int⊕(Bool⊕Wy (Int×Bool)))) else some (Sum.inl (mkY (unY v) (IntKind.wrap .i64 ((j:Int)+1))))) else some (Sum.inr (Sum.inr (mkY w ((j:Int),decide ((j:Int)<2))))))=_
    simp only[c1,c3,decide_true,cond_true,Option.bind_some,e1,e2,e3,e4,e5,Bool.not_true,beq_self_eq_true]
    rfl
   ·rfl
   ·obtain⟨S,no,b,s,tt,i,v,g,t,se,rfl,hw,r1,r2⟩:=hw
    have hs:=r1 (by omega)
    have hbg:=r2 (by omega)
    subst hs
    have hv:v.1=no:=by
     rcases hw.vn with e|⟨e,_⟩
     ·exact e
     ·cases e
    have hvg:v.2=g:=by rw[hw.vi,hv,←hw.sb,hbg]
    obtain⟨s1,s2⟩:=img_small hw.g
    show ((F_batonref16_Same (v.2,g)).bind fun r=>bif (r==true) then some (!false) else some false)=some true
    rw[hvg,imgSame_refl g (by omega)]
    rfl
end Go.Ideal.Seat
