/- Part of the proof: S514, S503, S504, S519, S520, S521, S522, S523, S524, S525, S526, S527, S528, S529, S530, S531, S532, S533, S534, S535, S536, S537, S538, S539, S540, S541, S542. -/
import Derived.Shelf.Small.Strs
import Derived.Test.YthimbimilnfdnaaGreatDoorG
set_option linter.unnecessarySimpa false
set_option linter.unusedVariables false
set_option linter.unusedSimpArgs false
namespace Go.Proofs.YthimbimilnfdnaaGreatDoor
open Go Go.Proofs.YthimbimilnfdnaaGreatDoor.AL
section
attribute [local simp] dPc_cells dPc_agg dPc_noTup dPr_cells dPr_agg dPr_noTup dNw_cells dNw_agg dNw_noTup
def lseN (n:Nw) (i:Int):Nw:=if atE n i=0 then wo n i else zNw
def repN (n:Nw) (i:Int):Nw:=if atE n i=0 then sndN n (atP n i) else zNw
def repE (n:Nw) (i:Int):Int:=if atE n i=0 then sndE n (atP n i) else atE n i
theorem atE_zero{n:Nw}{i:Int}:atE n i=0↔okNw n=true∧inQ n i=true:=by
 unfold atE;split <;> (try split) <;> simp_all
inductive CNwA:FuncId→List D→Out→Prop
 | at' (n:Nw) (i:Int):CNwA 121 [dNw n,dI i] (.ret (.tup [dPc (atP n i),dI (atE n i)]))
 | asked (n:Nw) (i:Int):CNwA 82 [dNw n,dI i] (.ret (dI (atE n i)))
 | without (n:Nw) (i:Int) (h:inQ n i=true) (hl:n.q.length≤4096):CNwA 124 [dNw n,dI i] (.ret (dNw (wo n i)))
 | rwithout (n:Nw) (i:Int) (h:inQ n i=true) (hl:n.q.length≤4096):CNwA 83 [dNw n,dI i] (.ret (dNw (wo n i)))
 | send (n:Nw) (p:Pc):CNwA 119 [dNw n,dPc p] (.ret (.tup [dNw (sndN n p),dI (sndE n p)]))
 | rsend (n:Nw) (p:Pc):CNwA 84 [dNw n,dPc p] (.ret (.tup [dNw (sndN n p),dI (sndE n p)]))
theorem hNwA:∀ f ds out,CNwA f ds out→PCall Tryz.prog f ds out:=by
 intro f ds out h
 cases h with
 | at' n i=>exact nwAt n i
 | asked n i=>exact nwAsked n i
 | without n i h hl=>exact nwWithout n i h hl
 | rwithout n i h hl=>exact nwRwithout n i h hl
 | send n p=>exact nwSend n p
 | rsend n p=>exact nwRsend n p
theorem nilN3{m:Nw}(h:m=zNw):LeD (.agg [.nil 3,.nil 2]) (dNw m):=by subst h;exact nilN
theorem nwLose(n:Nw) (i:Int):PCall Tryz.prog 76 [dNw n,dI i] (.ret (.tup [dNw (lseN n i),dI (atE n i)])):=by
 refine pcall_of_vc hNwA c76 (by simp [a76]) fun hr=>?_
 simp [a76]
 refine vc_path [.ret (.tup [dPc (atP n i),dI (atE n i)])] ?_
 simp
 refine⟨.at' n i,fun h=>nilN3 (by simp [lseN,h]),fun h=>vc_path [.ret (dNw (wo n i))] ?_⟩
 obtain⟨k1,k2⟩:=atE_zero.1 h
 simp [dNw_eq]
 exact⟨.without n i k2 (okNw_len k1),leD_of_eq (by simp [lseN,h]),leD_of_eq (by rw [h])⟩
theorem nwRepeat(n:Nw) (i:Int):PCall Tryz.prog 77 [dNw n,dI i] (.ret (.tup [dNw (repN n i),dI (repE n i)])):=by
 refine pcall_of_vc hNwA c77 (by simp [a77]) fun hr=>?_
 simp [a77]
 refine vc_path [.ret (.tup [dPc (atP n i),dI (atE n i)])] ?_
 simp
 refine⟨.at' n i,fun h=>⟨nilN3 (by simp [repN,h]),leD_of_eq (by simp [repE,h])⟩,fun h=>vc_path [.ret (.tup [dNw (sndN n (atP n i)),dI (sndE n (atP n i))])] ?_⟩
 simp [dNw_eq]
 exact⟨.send n (atP n i),leD_of_eq (by simp [repN,h]),leD_of_eq (by simp [repE,h])⟩
theorem nwIndex(l:List (Int×Int)) (x:Int×Int):PCall Tryz.prog 148 [.sl 2 (l.map dPr),dPr x] (.ret (dI (match l.findIdx? (fun y=>decide (x=y)) with | some i=>i | none=>-1))):=by
 refine pcall_of_vc noC c148 (by simp [a148]) fun hr=>?_
 have hlen:=(hr (.sl 2 (l.map dPr)) (by simp)).sl.1
 simp at hlen
 simp [a148]
 refine vc_loopK [0,3,7] Nat (fun i=>[(8,true,.d (dI i))]) (fun _=>[]) (fun i=>i≤l.length∧∀ j,(h:j<i)→(h2:j<l.length)→¬ x=l[j]) (fun i=>l.length-i) 0 (by simp) ⟨[],[],?_⟩ (fun i hi=>?_)
 ·simp
 ·obtain⟨h1,h2⟩:=hi
  simp
  refine⟨fun hlt=>?_,fun hge=>?_⟩
  ·simp [hlt,dPr]
   refine⟨rfl,fun ha hb=>leD_of_eq ?_,fun hne=>⟨i+1,⟨by omega,fun j hj hj2=>?_⟩,by omega,[],[],?_⟩⟩
   ·have:l.findIdx? (fun y=>decide (x=y))=some i:=findIdx_some hlt (by simp [Prod.ext_iff,ha,hb]) (fun j hj=>by simpa using h2 j hj (by omega))
    rw [this]
   ·by_cases e:j=i
    ·subst e;intro e;exact hne (by rw [e]) (by rw [e])
    ·exact h2 j (by omega) hj2
   ·rw [wrap64 (by omega)]
    simp
  ·have:l.findIdx? (fun y=>decide (x=y))=none:=findIdx_none (fun j hj=>by simpa using h2 j (by omega) hj)
   rw [this]
   exact leD_of_eq rfl
def nwIdx (l:List (Int×Int)) (x:Int×Int):Int:=match l.findIdx? (fun y=>decide (x=y)) with | some i=>i | none=>-1
inductive CNwIdx:FuncId→List D→Out→Prop
 | mk (l:List (Int×Int)) (x:Int×Int):CNwIdx 148 [.sl 2 (l.map dPr),dPr x] (.ret (dI (nwIdx l x)))
theorem hNwIdx:∀ f ds out,CNwIdx f ds out→PCall Tryz.prog f ds out:=by
 intro f ds out h
 cases h with
 | mk l x=>exact nwIndex l x
theorem nwContains(l:List (Int×Int)) (x:Int×Int):PCall Tryz.prog 122 [.sl 2 (l.map dPr),dPr x] (.ret (dB (decide (x∈l)))):=by
 refine pcall_of_vc hNwIdx c122 (by simp [a122]) fun hr=>?_
 simp [a122]
 refine vc_path [.ret (dI (nwIdx l x))] ?_
 simp
 refine⟨.mk l x,leD_of_eq ?_⟩
 congr 2
 unfold nwIdx
 split
 ·rename_i i h
  rw [List.findIdx?_eq_some_iff_getElem] at h
  obtain⟨h1,h2,_⟩:=h
  have:x∈l:=by
   have:=of_decide_eq_true h2
   rw [this];exact List.getElem_mem h1
  simp [this]
 ·rename_i h
  rw [List.findIdx?_eq_none_iff] at h
  have:x ∉ l:=fun hx=>by simpa using h x hx
  simp [this]
def lk (a b:Int):Int×Int:=(if b<a then b else a,if a<b then b else a)
theorem nwIsCut(n:Nw) (a b:Int):PCall Tryz.prog 125 [dNw n,dI a,dI b] (.ret (dB (decide (lk a b∈n.c)))):=by
 refine pcall_of_vc noC c125 (by simp [a125]) fun hr=>?_
 have hlen:=((hr (dNw n) (by simp)).agg (.sl 2 (n.c.map dPr)) (by simp [dNw])).2.sl.1
 simp at hlen
 simp [a125]
 refine vc_loopK [3,1,2] Nat (fun i=>[(7,true,.d (dI i))]) (fun _=>[]) (fun i=>i≤n.c.length∧∀ j,(h:j<i)→(h2:j<n.c.length)→¬ lk a b=n.c[j]) (fun i=>n.c.length-i) 0 (by simp) ⟨[],[],?_⟩ (fun i hi=>?_)
 ·simp
 ·obtain⟨h1,h2⟩:=hi
  simp
  refine⟨fun hlt=>?_,fun hge=>?_⟩
  ·refine vc_path [] ?_
   simp [hlt,dPr]
   have hno:¬ lk a b=n.c[i]→∃ x',(x'≤n.c.length∧∀ (j:Nat),j<x'→∀ (h2:j<n.c.length),¬lk a b=n.c[j])∧n.c.length-x'<n.c.length-i∧x'=i+1:=fun hne=>⟨i+1,⟨by omega,fun j hj hj2=>by
    by_cases e:j=i
    ·subst e;exact hne
    ·exact h2 j (by omega) hj2⟩,by omega,rfl⟩
   refine⟨fun g1=>⟨fun g2=>leD_of_eq ?_,fun g2=>?_⟩,fun g1=>?_⟩
   ·have:lk a b∈n.c:=by
     rw [show lk a b=n.c[i] from by rw [lk,← g1,← g2]];exact List.getElem_mem hlt
    simp [this]
   ·obtain⟨x',q1,q2,rfl⟩:=hno (fun e=>g2 (by rw [← e];rfl))
    refine⟨_,q1,q2,[],[],?_⟩
    rw [wrap64 (by omega)];simp
   ·obtain⟨x',q1,q2,rfl⟩:=hno (fun e=>g1 (by rw [← e];rfl))
    refine⟨_,q1,q2,[],[],?_⟩
    rw [wrap64 (by omega)];simp
  ·have:lk a b ∉ n.c:=fun h=>by
    obtain⟨j,hj,e⟩:=List.getElem_of_mem h
    exact h2 j (by omega) hj e.symm
   exact leD_of_eq (by simp [this])
def dlvP (n:Nw) (i:Int):Pc:=if lk (atP n i).a (atP n i).b∈n.c then zPc else atP n i
inductive CNwDlv:FuncId→List D→Out→Prop
 | at' (n:Nw) (i:Int):CNwDlv 121 [dNw n,dI i] (.ret (.tup [dPc (atP n i),dI (atE n i)]))
 | asked (n:Nw) (i:Int):CNwDlv 82 [dNw n,dI i] (.ret (dI (atE n i)))
 | without (n:Nw) (i:Int) (h:inQ n i=true) (hl:n.q.length≤4096):CNwDlv 124 [dNw n,dI i] (.ret (dNw (wo n i)))
 | rwithout (n:Nw) (i:Int) (h:inQ n i=true) (hl:n.q.length≤4096):CNwDlv 83 [dNw n,dI i] (.ret (dNw (wo n i)))
 | between (x y:Int):CNwDlv 123 [dI x,dI y] (.ret (dPr (lk x y)))
 | contains (l:List (Int×Int)) (x:Int×Int):CNwDlv 122 [.sl 2 (l.map dPr),dPr x] (.ret (dB (decide (x∈l))))
 | isCut (n:Nw) (a b:Int):CNwDlv 125 [dNw n,dI a,dI b] (.ret (dB (decide (lk a b∈n.c))))
theorem hNwDlv:∀ f ds out,CNwDlv f ds out→PCall Tryz.prog f ds out:=by
 intro f ds out h
 cases h with
 | at' n i=>exact nwAt n i
 | asked n i=>exact nwAsked n i
 | without n i h hl=>exact nwWithout n i h hl
 | rwithout n i h hl=>exact nwRwithout n i h hl
 | between x y=>exact nwBetween x y
 | contains l x=>exact nwContains l x
 | isCut n a b=>exact nwIsCut n a b
theorem dlvP_z{n:Nw}{i:Int}(h:¬ atE n i=0):dlvP n i=zPc:=by
 have:atP n i=zPc:=by simp [atP,h]
 rw [dlvP,this];split <;> rfl
set_option maxRecDepth 4000 in
theorem nwDeliver(n:Nw) (i:Int):PCall Tryz.prog 75 [dNw n,dI i] (.ret (.tup [dPc (dlvP n i),dNw (lseN n i),dI (atE n i)])):=by
 refine pcall_of_vc hNwDlv c75 (by simp [a75]) fun hr=>?_
 simp [a75]
 refine vc_path [.ret (.tup [dPc (atP n i),dI (atE n i)])] ?_
 simp
 refine⟨.at' n i,fun h=>?_,fun h=>vc_pathD [.ret (dPr (lk (atP n i).a (atP n i).b)),.ret (dB (decide (lk (atP n i).a (atP n i).b∈n.c)))] ?_⟩
 ·exact⟨rfl,leD_of_eq (by rw [dlvP_z h,show atP n i=zPc by simp [atP,h]];rfl),nilN3 (by simp [lseN,h])⟩
 obtain⟨k1,k2⟩:=atE_zero.1 h
 simp
 refine⟨.between _ _,.contains _ _,rfl,fun h4=>vc_pathD [.ret (dNw (wo n i))] ?_,fun h4=>vc_pathD [.ret (dNw (wo n i))] ?_⟩
 ·simp [dNw_eq]
  exact⟨.without n i k2 (okNw_len k1),rfl,nilP (by simp [dlvP,h4]),leD_of_eq (by simp [lseN,h]),leD_of_eq (by rw [h])⟩
 ·simp [dNw_eq]
  exact⟨.without n i k2 (okNw_len k1),rfl,leD_of_eq (by simp [dlvP,h4,dPc]),leD_of_eq (by simp [lseN,h]),leD_of_eq (by rw [h])⟩
attribute [local simp] dPc_cells dPc_agg dPc_noTup dPr_cells dPr_agg dPr_noTup dNw_cells dNw_agg dNw_noTup
inductive CNwSame:FuncId→List D→Out→Prop
 | mk (x y:Pc):CNwSame 96 [dPc x,dPc y] (.ret (dB (decide (x=y))))
theorem hNwSame:∀ f ds out,CNwSame f ds out→PCall Tryz.prog f ds out:=by
 intro f ds out h
 cases h with
 | mk x y=>exact nwSamePacket x y
set_option maxRecDepth 4000 in
theorem nwSame(x y:Nw):PCall Tryz.prog 50 [dNw x,dNw y] (.ret (dB (decide (x=y)))):=by
 refine pcall_of_vc hNwSame c50 (by simp [a50]) fun hr=>?_
 have hlen1:=((hr (dNw x) (by simp)).agg (.sl 3 (x.q.map dPc)) (by simp [dNw])).2.sl.1
 have hlen2:=((hr (dNw x) (by simp)).agg (.sl 2 (x.c.map dPr)) (by simp [dNw])).2.sl.1
 simp at hlen1 hlen2
 simp [a50]
 refine vc_path [] ?_
 simp
 have hno:¬ x=y→LeD (dB false) (dB (decide (x=y))):=fun h=>leD_of_eq (by simp [h])
 refine⟨fun h=>?_,fun h1=>⟨fun h=>?_,fun h2=>?_⟩⟩
 ·exact hno (fun e=>h (by rw [e]))
 ·exact hno (fun e=>h (by rw [e]))
 refine vc_loopK [2,3] Nat (fun i=>[(5,true,.d (dI i))]) (fun _=>[]) (fun i=>i≤x.q.length∧∀ j,(h:j<i)→(h2:j<x.q.length)→(h3:j<y.q.length)→x.q[j]=y.q[j]) (fun i=>x.q.length-i) 0 (by simp) ⟨[],[],?_⟩ (fun i hi=>?_)
 ·simp
 obtain⟨g1,g2⟩:=hi
 simp
 refine⟨fun hlt=>?_,fun hge1=>?_⟩
 ·have hlt2:i<y.q.length:=by omega
  refine vc_pathD [.ret (dB (decide (x.q[i]=y.q[i])))] ?_
  simp [hlt,hlt2]
  refine⟨.mk _ _,rfl,fun h=>hno (fun e=>h (by subst e;rfl)),fun h=>⟨i+1,⟨by omega,fun j hj q1 q2=>?_⟩,by omega,[],[],?_⟩⟩
  ·by_cases e:j=i
   ·subst e;exact h
   ·exact g2 j (by omega) q1 q2
  ·rw [wrap64 (by omega)];simp
 refine vc_loopK [2,3] Nat (fun i=>[(6,true,.d (dI i))]) (fun _=>[]) (fun i=>i≤x.c.length∧∀ j,(h:j<i)→(h2:j<x.c.length)→(h3:j<y.c.length)→x.c[j]=y.c[j]) (fun i=>x.c.length-i) 0 (by simp) ⟨[],[],?_⟩ (fun i hi=>?_)
 ·simp
 obtain⟨g3,g4⟩:=hi
 simp
 refine⟨fun hlt=>?_,fun hge=>?_⟩
 ·have hlt2:i<y.c.length:=by omega
  simp [hlt,hlt2,dPr]
  refine⟨rfl,fun h=>hno (fun e=>by subst e;simp at h),fun h h'=>⟨i+1,⟨by omega,fun j hj q1 q2=>?_⟩,by omega,[],[],?_⟩⟩
  ·by_cases e:j=i
   ·subst e;exact Prod.ext h h'
   ·exact g4 j (by omega) q1 q2
  ·rw [wrap64 (by omega)];simp
 ·have:x=y:=by
   obtain⟨xq,xc⟩:=x
   obtain⟨yq,yc⟩:=y
   simp at h1 h2 g2 g4 hge hge1
   have e1:xq=yq:=List.ext_getElem (by omega) (fun j q1 q2=>g2 j (by omega) q1 q2)
   have e2:xc=yc:=List.ext_getElem (by omega) (fun j q1 q2=>g4 j (by omega) q1 q2)
   rw [e1,e2]
  exact leD_of_eq (by simp [this])
end

section
def dPe (l:List Nt):D:=.agg [.sl 7 (l.map dNt)]
theorem dPe_cells(l:List Nt):(dPe l).cells=[.sl 7 (l.map dNt)]:=rfl
theorem dPe_isAgg(l:List Nt):(dPe l).isAgg=true:=rfl
theorem dPe_noTup(l:List Nt):(AV.d (dPe l)).noTup=true:=rfl
theorem dPe_nt(l:List Nt) (ds:List D):(dPe l=.tup ds)=False:=by simp [dPe]
structure Rm where
 ps:List (List Nt)
 net:Nw
 deriving DecidableEq
def dRm (r:Rm):D:=.agg [.sl 1 (r.ps.map dPe),.sl 3 (r.net.q.map dPc),.sl 2 (r.net.c.map dPr)]
theorem dRm_cells(r:Rm):(dRm r).cells=[.sl 1 (r.ps.map dPe),.sl 3 (r.net.q.map dPc),.sl 2 (r.net.c.map dPr)]:=rfl
theorem dRm_isAgg(r:Rm):(dRm r).isAgg=true:=rfl
theorem dRm_noTup(r:Rm):(AV.d (dRm r)).noTup=true:=rfl
theorem dRm_nt(r:Rm) (ds:List D):(dRm r=.tup ds)=False:=by simp [dRm]
structure Mv where
 kind:Int
 peer:Int
 to:Int
 at_:Int
 note:Nt
 hk:-9223372036854775808≤kind∧kind<9223372036854775808
def dMv (m:Mv):D:=.agg (dI m.kind::dI m.peer::dI m.to::dI m.at_::(dNt m.note).cells)
theorem dMv_cells(m:Mv):(dMv m).cells=[dI m.kind,dI m.peer,dI m.to,dI m.at_,dI m.note.lang,dI m.note.seq,dI m.note.ch.at_,dI m.note.ch.kind,dI m.note.ch.sp.id,dI m.note.ch.sp.ver,dZ m.note.ch.sp.tx]:=rfl
theorem dMv_isAgg(m:Mv):(dMv m).isAgg=true:=rfl
theorem dMv_noTup(m:Mv):(AV.d (dMv m)).noTup=true:=rfl
theorem dMv_nt(m:Mv) (ds:List D):(dMv m=.tup ds)=False:=by simp [dMv]
def okNs:Option (List UInt8)→List Nt→Bool
 | _,[]=>true
 | last,n::r=>okNt n&&((match last with | none=>true | some b=>bLt b (msgB n))&&okNs (some (msgB n)) r)
def okPe (l:List Nt):Bool:=okNs none l&&decide (l.length≤4096)
def okPq (n:Nat) (p:Pc):Bool:=(readB p.p).isSome&&(decide (p.a<n)&&decide (p.b<n))
def okRm (r:Rm):Bool:=decide (1≤r.ps.length)&&(decide (r.ps.length≤24)&&(okNw r.net&&(r.ps.all okPe&&r.net.q.all (okPq r.ps.length))))
def rmE (r:Rm):Int:=if okRm r then 0 else 530
def posN (l:List Nt) (n:Nt):Nat:=(l.takeWhile fun x=>bLt (msgB x) (msgB n)).length
def lrnE (l:List Nt) (n:Nt):Int:=if l[posN l n]?=some n then 0 else if l.length=4096 then 2 else 0
def lrnL (l:List Nt) (n:Nt):List Nt:=if l[posN l n]?=some n then l else if l.length=4096 then [] else l.take (posN l n)++n::l.drop (posN l n)
def sndAll:Nw→List Pc→Nw×Int
 | w,[]=>(w,0)
 | w,p::r=>if sndE w p=0 then sndAll (sndN w p) r else (w,sndE w p)
def pcOf (a b:Int) (n:Nt):Pc:=⟨a,b,msgB n⟩
def tellQ (k:Nat) (i:Nat) (n:Nt):List Pc:=((List.range k).filter (fun j=>j != i)).map fun(j:Nat)=>pcOf i j n
def zRm:Rm:=⟨[],⟨[],[]⟩⟩
def tellR (r:Rm) (i:Nat) (n:Nt):Rm×Int :=
 match r.ps[i]? with
 | none=>(zRm,1)
 | some l=>if lrnE l n≠0 then (zRm,lrnE l n) else
  let s:=sndAll r.net (tellQ r.ps.length i n)
  if s.2≠0 then (zRm,s.2) else (⟨r.ps.set i (lrnL l n),s.1⟩,0)
def syncR (r:Rm) (i k:Nat):Rm×Int :=
 match r.ps[i]? with
 | none=>(zRm,1)
 | some l =>
  let s:=sndAll r.net (l.map fun n=>pcOf i k n)
  if s.2≠0 then (zRm,s.2) else (⟨r.ps,s.1⟩,0)
def dlvR (r:Rm) (at_:Int):Rm×Int :=
 if atE r.net at_≠0 then (zRm,atE r.net at_) else
  let p:=dlvP r.net at_
  let w:=lseN r.net at_
  if p.a=p.b then (⟨r.ps,w⟩,0) else
   match readB p.p,r.ps[p.b.toNat]? with
   | some n,some l=>if lrnE l n≠0 then (zRm,lrnE l n) else (⟨r.ps.set p.b.toNat (lrnL l n),w⟩,0)
   | _,_=>(zRm,0)
def inR (r:Rm) (i:Int):Bool:=decide (0≤i)&&decide (i<r.ps.length)
def mvR (r:Rm) (m:Mv):Rm×Int :=
 if okRm r=false then (zRm,530)
 else if m.kind=1 then (if inR r m.peer=false then (zRm,1) else if okNt m.note=false then (zRm,530) else tellR r m.peer.toNat m.note)
 else if m.kind=2 then (if (inR r m.peer&&inR r m.to)=false∨m.peer=m.to then (zRm,1) else syncR r m.peer.toNat m.to.toNat)
 else if m.kind=3 then dlvR r m.at_
 else if m.kind=4 then (if atE r.net m.at_≠0 then (zRm,atE r.net m.at_) else (⟨r.ps,lseN r.net m.at_⟩,0))
 else if m.kind=5 then (if repE r.net m.at_≠0 then (zRm,repE r.net m.at_) else (⟨r.ps,repN r.net m.at_⟩,0))
 else (zRm,1)
def newR (n:Int):Rm×Int:=if n<1∨24<n then (zRm,1) else (⟨List.replicate n.toNat [],⟨[],[]⟩⟩,0)
def findN (l:List Nt) (lang seq:Int):Option Ch:=(l.find? fun x=>decide (x.lang=lang∧x.seq=seq)).map (·.ch)
def seenN (l:List Nt) (lang:Int):Nat→List Sp→Nat→List Sp×Nat
 | 0,x,k=>(x,k)
 | f+1,x,k=>match findN l lang k with
  | none=>(x,k)
  | some c=>seenN l lang f (if doDE x c=0 then doDL x c else x) (k+1)
def seenE (l:List Nt) (lang:Int):Int:=if okPe l=false then 530 else if lang<0∨32≤lang then 1 else 0
def seenR (l:List Nt) (lang:Int):List Sp×Nat:=if seenE l lang=0 then seenN l lang (l.length+1) [] 0 else ([],0)
abbrev nLt (a b:Nt):Prop:=bLt (msgB a) (msgB b)=true
theorem okNs_iff{l:List Nt}{last:Option (List UInt8)}:okNs last l=true↔(∀ n∈l,okNt n=true)∧l.Pairwise nLt∧∀ b,last=some b→∀ n∈l,bLt b (msgB n)=true:=by
 induction l generalizing last with
 | nil=>simp [okNs]
 | cons x r ih =>
  simp only [okNs,Bool.and_eq_true,ih,List.pairwise_cons,List.mem_cons,forall_eq_or_imp]
  constructor
  ·rintro⟨h1,h2,h3,h4,h5⟩
   have h6:∀ n∈r,nLt x n:=fun n hn=>h5 _ rfl n hn
   refine⟨⟨h1,h3⟩,⟨h6,h4⟩,fun b hb=>?_⟩
   subst hb
   exact⟨h2,fun n hn=>bLt_trans h2 (h6 n hn)⟩
  ·rintro⟨⟨h1,h2⟩,⟨h3,h4⟩,h5⟩
   refine⟨h1,?_,h2,h4,fun b hb n hn=>?_⟩
   ·cases last with
    | none=>rfl
    | some b=>exact(h5 b rfl).1
   ·injection hb with hb;subst hb
    exact h3 n hn
theorem okNs_ok{l:List Nt}(h:okNs none l=true):∀ n∈l,okNt n=true:=(okNs_iff.1 h).1
theorem okNs_pw{l:List Nt}(h:okNs none l=true):l.Pairwise nLt:=(okNs_iff.1 h).2.1
theorem okNs_mk{l:List Nt}(h1:∀ n∈l,okNt n=true) (h2:l.Pairwise nLt):okNs none l=true:=okNs_iff.2 ⟨h1,h2,fun b hb=>by cases hb⟩
theorem posN_spec{l:List Nt}(h:l.Pairwise nLt) (n:Nt):posN l n≤l.length∧∀ (k:Nat) (hk:k<l.length),(nLt l[k] n↔k<posN l n):=by
 induction l with
 | nil=>exact⟨by simp [posN],fun k hk=>by simp at hk⟩
 | cons x r ih =>
  rw [List.pairwise_cons] at h
  obtain⟨h1,h2⟩:=ih h.2
  unfold posN at *
  by_cases hx:bLt (msgB x) (msgB n)=true
  ·rw [List.takeWhile_cons_of_pos (p:=fun x=>bLt (msgB x) (msgB n)) hx]
   refine⟨by simpa using h1,fun k hk=>?_⟩
   cases k with
   | zero=>simp only [List.getElem_cons_zero,List.length_cons];exact⟨fun _=>by omega,fun _=>hx⟩
   | succ k =>
    have:=h2 k (by simpa using hk)
    simp only [List.getElem_cons_succ,List.length_cons]
    rw [this];omega
  ·rw [List.takeWhile_cons_of_neg (p:=fun x=>bLt (msgB x) (msgB n)) hx]
   refine⟨by simp,fun k hk=>?_⟩
   simp only [List.length_nil,Nat.not_lt_zero,iff_false]
   cases k with
   | zero=>exact hx
   | succ k =>
    have hk':k<r.length:=by simpa using hk
    intro hlt
    simp only [List.getElem_cons_succ] at hlt
    exact hx (bLt_trans (h.1 r[k] (List.getElem_mem hk')) hlt)
theorem posN_uniq{l:List Nt}(h:l.Pairwise nLt){n:Nt}{p:Nat}(hp:p≤l.length) (h1:∀ (k:Nat) (hk:k<l.length),k<p→nLt l[k] n) (h2:∀ (k:Nat) (hk:k<l.length),p≤k→¬ nLt l[k] n):p=posN l n:=by
 obtain⟨q1,q2⟩:=posN_spec h n
 rcases Nat.lt_trichotomy p (posN l n) with hlt | he | hgt
 ·exact absurd ((q2 p (by omega)).2 hlt) (h2 p (by omega) (Nat.le_refl _))
 ·exact he
 ·have:=(q2 (posN l n) (by omega)).1 (h1 _ (by omega) hgt)
  omega
theorem posN_mem{l:List Nt}(h:l.Pairwise nLt){n:Nt}:l[posN l n]?=some n↔n∈l:=by
 constructor
 ·intro hh
  exact List.mem_of_getElem? hh
 ·intro hn
  obtain⟨k,hk,rfl⟩:=List.mem_iff_getElem.1 hn
  have hpw:=List.pairwise_iff_getElem.1 h
  have:k=posN l l[k]:=posN_uniq h (by omega) (fun j hj hjk=>hpw j k hj hk hjk) (fun j hj hkj hlt=>by
   rcases Nat.lt_or_ge k j with h' | h'
   ·have:=hpw k j hk hj h'
    have h3:=bLt_trans this hlt
    rw [bLt_irr] at h3;cases h3
   ·have:j=k:=by omega
    subst this
    rw [nLt,bLt_irr] at hlt;cases hlt)
  rw [← this,List.getElem?_eq_getElem hk]
theorem lrn_ok{l:List Nt}{n:Nt}(h:okNs none l=true) (hn:okNt n=true) (he:lrnE l n=0):okNs none (lrnL l n)=true∧(∀ x,x∈lrnL l n↔x∈l∨x=n)∧(lrnL l n).length≤l.length+1∧l.length≤(lrnL l n).length:=by
 have hpw:=okNs_pw h
 have hok:=okNs_ok h
 unfold lrnE at he
 unfold lrnL
 by_cases hm:l[posN l n]?=some n
 ·rw [if_pos hm]
  have:=(posN_mem hpw).1 hm
  exact⟨h,fun x=>⟨.inl,fun hx=>hx.elim id fun e=>e ▸ this⟩,by omega,by omega⟩
 ·rw [if_neg hm] at he ⊢
  have hl:l.length≠4096:=fun e=>by rw [if_pos e] at he;cases he
  rw [if_neg hl]
  obtain⟨q1,q2⟩:=posN_spec hpw n
  have hmem:∀ x,x∈l.take (posN l n)++n::l.drop (posN l n)↔x∈l∨x=n:=fun x=>by
   rw [List.mem_append,List.mem_cons]
   conv=>rhs;rw [← List.take_append_drop (posN l n) l,List.mem_append]
   constructor
   ·rintro(h1 | h1 | h1)
    ·exact .inl (.inl h1)
    ·exact .inr h1
    ·exact .inl (.inr h1)
   ·rintro((h1 | h1) | h1)
    ·exact .inl h1
    ·exact .inr (.inr h1)
    ·exact .inr (.inl h1)
  have hlen:(l.take (posN l n)++n::l.drop (posN l n)).length=l.length+1:=by simp;omega
  refine⟨okNs_mk (fun x hx=>?_) ?_,hmem,by omega,by omega⟩
  ·rcases (hmem x).1 hx with h1 | rfl
   ·exact hok x h1
   ·exact hn
  ·have hpw2:=hpw
   rw [← List.take_append_drop (posN l n) l,List.pairwise_append] at hpw2
   obtain⟨p1,p2,p3⟩:=hpw2
   have hbefore:∀ x∈l.take (posN l n),nLt x n:=fun x hx=>by
    obtain⟨k,hk,rfl⟩:=List.mem_iff_getElem.1 hx
    rw [List.getElem_take]
    have hk2:k<posN l n:=by simp at hk;omega
    exact(q2 k (by omega)).2 hk2
   have hafter:∀ x∈l.drop (posN l n),nLt n x:=fun x hx=>by
    obtain⟨k,hk,rfl⟩:=List.mem_iff_getElem.1 hx
    rw [List.getElem_drop]
    have hkl:posN l n+k<l.length:=by simp at hk;omega
    have hno:¬ nLt l[posN l n+k] n:=fun hlt=>by have:=(q2 _ hkl).1 hlt;omega
    rcases bLt_tri (msgB l[posN l n+k]) (msgB n) with h1 | h1 | h1
    ·exact absurd h1 hno
    ·have e:=msgB_inj (hok _ (List.getElem_mem hkl)) hn h1
     exact absurd ((posN_mem hpw).2 (e ▸ List.getElem_mem hkl)) hm
    ·exact h1
   rw [List.pairwise_append,List.pairwise_cons]
   refine⟨p1,⟨hafter,p2⟩,fun x hx y hy=>?_⟩
   rcases List.mem_cons.1 hy with rfl | hy
   ·exact hbefore x hx
   ·exact p3 x hx y hy
theorem lrn_small{l:List Nt}{n:Nt}(h:l.length<4096):lrnE l n=0:=by
 unfold lrnE
 split
 ·rfl
 ·rw [if_neg (by omega)]
theorem pw_ext{a b:List Nt}(ha:a.Pairwise nLt) (hb:b.Pairwise nLt) (h:∀ n,n∈a↔n∈b):a=b:=by
 induction a generalizing b with
 | nil =>
  cases b with
  | nil=>rfl
  | cons y b=>exact absurd ((h y).2 (by simp)) (by simp)
 | cons x a ih =>
  cases b with
  | nil=>exact absurd ((h x).1 (by simp)) (by simp)
  | cons y b =>
   rw [List.pairwise_cons] at ha hb
   have hxy:x=y:=by
    rcases List.mem_cons.1 ((h x).1 (by simp)) with h1 | h1
    ·exact h1
    ·rcases List.mem_cons.1 ((h y).2 (by simp)) with h2 | h2
     ·exact h2.symm
     ·have:=bLt_trans (ha.1 y h2) (hb.1 x h1)
      rw [bLt_irr] at this;cases this
   subst hxy
   rw [ih ha.2 hb.2 (fun n=>?_)]
   have hn:=h n
   simp only [List.mem_cons] at hn
   constructor
   ·intro hna
    rcases hn.1 (.inr hna) with e | h1
    ·subst e
     have:=ha.1 n hna
     rw [nLt,bLt_irr] at this;cases this
    ·exact h1
   ·intro hnb
    rcases hn.2 (.inr hnb) with e | h1
    ·subst e
     have:=hb.1 n hnb
     rw [nLt,bLt_irr] at this;cases this
    ·exact h1
theorem okNs_ext{a b:List Nt}(ha:okNs none a=true) (hb:okNs none b=true) (h:∀ n,n∈a↔n∈b):a=b:=pw_ext (okNs_pw ha) (okNs_pw hb) h
theorem wr_cons(x:D) (l:List D):wr (x::l)=x.cells.map .d++wr l:=by simp [wr,D.flat]
theorem wr_take{z:Nat}{es:List D}{i:Nat}{e:D}(hz:∀ e∈es,e.cells.length=z) (h:es[i]?=some e):((wr es).drop (i*z)).take z=e.cells.map .d:=by
 have he:=hz e (List.mem_of_getElem? h)
 refine List.ext_getElem? fun k=>?_
 rw [List.getElem?_take]
 by_cases hk:k<z
 ·have:=flat_get hz h k hk
  rw [if_pos hk,List.getElem?_drop,wr,List.getElem?_map,this,List.getElem?_map]
 ·rw [if_neg hk,List.getElem?_eq_none (by simp;omega)]
theorem wr_get{z:Nat}{es:List D}{i k:Nat}{e d:D}(hz:∀ e∈es,e.cells.length=z) (h:es[i]?=some e) (hk:e.cells[k]?=some d):(wr es)[i*z+k]?=some (.d d):=by
 have he:=hz e (List.mem_of_getElem? h)
 have hlt:=(List.getElem?_eq_some_iff.1 hk).1
 have:=flat_get hz h k (by omega)
 rw [wr,List.getElem?_map,this,hk];rfl
theorem wr_len'{z:Nat}{es:List D}(hz:∀ e∈es,e.cells.length=z):(wr es).length=es.length*z:=by rw [wr,List.length_map,flat_len hz]
theorem wr_set{z:Nat}:∀ {es:List D}{i:Nat}{d:D},(∀ e∈es,e.cells.length=z)→d.cells.length=z→i<es.length→wr (es.set i d)=(wr es).take (i*z)++d.cells.map .d++(wr es).drop (i*z+z)
 | [],i,d,_,_,h=>by simp at h
 | e::es,i,d,hz,hd,h=>by
  have he:=hz e (by simp)
  cases i with
  | zero=>rw [List.set_cons_zero,wr_cons,wr_cons,Nat.zero_mul,List.take_zero,Nat.zero_add,List.drop_left' (by simpa using he)];rfl
  | succ i =>
   have ih:=wr_set (es:=es) (i:=i) (d:=d) (fun e he=>hz e (by simp [he])) hd (by simpa using h)
   have hl:(e.cells.map AV.d).length=z:=by simpa using he
   rw [List.set_cons_succ,wr_cons,wr_cons,ih,Nat.succ_mul,show i*z+z+z=z+(i*z+z) by omega,show i*z+z=z+i*z by omega]
   rw [show z=(e.cells.map AV.d).length from hl.symm,List.take_length_add_append,List.drop_length_add_append]
   simp [List.append_assoc]
theorem set3{α:Type}(l:List α) (i:Nat) (a b c:α) (h:i+3≤l.length):((l.set i a).set (i+1) b).set (i+2) c=l.take i++[a,b,c]++l.drop (i+3):=by
 refine List.ext_getElem? fun k=>?_
 simp only [List.getElem?_set,List.length_set]
 by_cases h1:k<i
 ·rw [if_neg (by omega),if_neg (by omega),if_neg (by omega),List.append_assoc,List.getElem?_append_left (by simp;omega),List.getElem?_take,if_pos h1]
 ·rw [List.append_assoc,List.getElem?_append_right (by simp;omega)]
  simp only [List.length_take,Nat.min_eq_left (show i≤l.length by omega)]
  by_cases h2:k=i
  ·subst h2;rw [if_neg (by omega),if_neg (by omega),if_pos rfl,if_pos (by omega)];simp
  ·by_cases h3:k=i+1
   ·subst h3;rw [if_neg (by omega),if_pos rfl,if_pos (by omega),show i+1-i=1 by omega];simp
   ·by_cases h4:k=i+2
    ·subst h4;rw [if_pos rfl,if_pos (by omega),show i+2-i=2 by omega];simp
    ·rw [if_neg (by omega),if_neg (by omega),if_neg (by omega),List.getElem?_append_right (by simp;omega),List.getElem?_drop]
     congr 1;simp;omega
theorem wr_set3{es:List D}{i:Nat}{a b c:D}(hz:∀ e∈es,e.cells.length=3) (hi:i<es.length):(((wr es).set (i*3) (.d a)).set (i*3+1) (.d b)).set (i*3+2) (.d c)=wr (es.set i (.agg [a,b,c])):=by
 rw [wr_set hz rfl hi,set3 _ _ _ _ _ (by rw [wr_len' hz];omega)]
 rfl
theorem eqB_sp(x y:Sp):eqB [dI x.id,dI x.ver,dZ x.tx] [dI y.id,dI y.ver,dZ y.tx]=decide (x=y):=by
 rw [Bool.eq_iff_iff]
 simp only [dI,dZ,eqB,Bool.and_eq_true,beq_iff_eq,decide_eq_true_eq,Bool.and_true,bz_inj]
 constructor
 ·rintro⟨h1,h2,h3⟩;exact Sp.ext' h1 h2 h3
 ·rintro rfl;exact⟨rfl,rfl,rfl⟩
end

section
attribute [local simp] dZ_agg dZ_nt dZ_noTup dZ_cells dZ_one bz_toList bz_size strV dSp_cells dSp_isAgg dSp_noTup dSp_nt dCh_cells dCh_isAgg dCh_noTup dCh_nt
set_option maxRecDepth 8000
set_option maxHeartbeats 4000000
theorem dNeed_t(n:Int):PCall Tryz.prog 101 [dB true,dI n] (.ret (.tup [])):=by
 refine pcall_of_vc noC c101 (by simp [a101]) fun hr=>?_
 simp [a101]
theorem dNeed_f(n:Int):PCall Tryz.prog 101 [dB false,dI n] (.pan (tE n)):=by
 refine pcall_of_vc noC c101 (by simp [a101]) fun hr=>?_
 simp [a101]
 refine regS_path [] ?_
 simp [tE]
theorem dId(n:Int):PCall Tryz.prog 136 [dI n] (.ret (dB (okId n))):=by
 refine pcall_of_vc noC c136 (by simp [a136]) fun hr=>?_
 simp [a136]
 refine vc_calls [] ?_
 simp [okId]
theorem rId(n:Int):PCall Tryz.prog 157 [dI n] (.ret (dB (okId n))):=by
 refine pcall_of_vc noC c157 (by simp [a157]) fun hr=>?_
 simp [a157]
 refine vc_calls [] ?_
 simp [okId]
theorem dTime(n:Int):PCall Tryz.prog 111 [dI n] (.ret (dB (okTm n))):=by
 refine pcall_of_vc noC c111 (by simp [a111]) fun hr=>?_
 simp [a111]
 refine vc_calls [] ?_
 simp [okTm]
theorem rTime(n:Int):PCall Tryz.prog 134 [dI n] (.ret (dB (okTm n))):=by
 refine pcall_of_vc noC c134 (by simp [a134]) fun hr=>?_
 simp [a134]
 refine vc_calls [] ?_
 simp [okTm]
inductive C520:FuncId→List D→Out→Prop
 | id (n:Int):C520 136 [dI n] (.ret (dB (okId n)))
 | rid (n:Int):C520 157 [dI n] (.ret (dB (okId n)))
 | time (n:Int):C520 111 [dI n] (.ret (dB (okTm n)))
 | rtime (n:Int):C520 134 [dI n] (.ret (dB (okTm n)))
 | word (b:List UInt8):C520 137 [dZ b] (.ret (dB (isWd b)))
 | rword (b:List UInt8):C520 158 [dZ b] (.ret (dB (isWd b)))
theorem h520:∀ f ds out,C520 f ds out→PCall Tryz.prog f ds out:=by
 intro f ds out h
 cases h with
 | id n=>exact dId n
 | rid n=>exact rId n
 | time n=>exact dTime n
 | rtime n=>exact rTime n
 | word b=>exact word b
 | rword b=>exact rword b
theorem dRight(x:Sp):PCall Tryz.prog 102 [dSp x] (.ret (dB (okSp x))):=by
 refine pcall_of_vc h520 c102 (by simp [a102]) fun hr=>?_
 simp [a102]
 have k1:=C520.id x.id
 have k2:=C520.id x.ver
 have k3:=C520.word x.tx
 unfold okSp
 generalize okId x.id=p1 at *
 generalize okId x.ver=p2 at *
 generalize isWd x.tx=p3 at *
 refine vc_path [.ret (dB p1),.ret (dB p2),.ret (dB p3)] ?_
 cases p1 <;> cases p2 <;> simp <;> simp at k1 k2 k3 <;> first | exact⟨k1,k2,k3⟩ | exact⟨k1,k2⟩ | exact k1
theorem rRightS(x:Sp):PCall Tryz.prog 133 [dSp x] (.ret (dB (okSp x))):=by
 refine pcall_of_vc h520 c133 (by simp [a133]) fun hr=>?_
 simp [a133]
 have k1:=C520.rid x.id
 have k2:=C520.rid x.ver
 have k3:=C520.rword x.tx
 unfold okSp
 generalize okId x.id=p1 at *
 generalize okId x.ver=p2 at *
 generalize isWd x.tx=p3 at *
 refine vc_path [.ret (dB p1),.ret (dB p2),.ret (dB p3)] ?_
 cases p1 <;> cases p2 <;> simp <;> simp at k1 k2 k3 <;> first | exact⟨k1,k2,k3⟩ | exact⟨k1,k2⟩ | exact k1
def oD (n:Int):Out:=if n=0 then .ret (.tup []) else .pan (tE n)
inductive C521:FuncId→List D→Out→Prop
 | need_t (n:Int):C521 101 [dB true,dI n] (.ret (.tup []))
 | need_f (n:Int):C521 101 [dB false,dI n] (.pan (tE n))
 | right (x:Sp):C521 102 [dSp x] (.ret (dB (okSp x)))
 | rright (x:Sp):C521 133 [dSp x] (.ret (dB (okSp x)))
 | time (n:Int):C521 111 [dI n] (.ret (dB (okTm n)))
 | rtime (n:Int):C521 134 [dI n] (.ret (dB (okTm n)))
theorem h521:∀ f ds out,C521 f ds out→PCall Tryz.prog f ds out:=by
 intro f ds out h
 cases h with
 | need_t n=>exact dNeed_t n
 | need_f n=>exact dNeed_f n
 | right x=>exact dRight x
 | rright x=>exact rRightS x
 | time x=>exact dTime x
 | rtime x=>exact rTime x
theorem dCheck(l:List Sp):PCall Tryz.prog 58 [.sl 3 (l.map dSp)] (oD (dispE l)):=by
 refine pcall_of_vc (ho:=by unfold oD;split <;> rfl) h521 c58 (by simp [a58]) fun hr=>?_
 have hlen:=(hr (.sl 3 (l.map dSp)) (by simp)).sl.1
 simp at hlen
 simp [a58]
 unfold dispE
 by_cases q1:1024<l.length
 ·rw [if_pos q1]
  have q1':¬ (l.length:Int)≤1024:=by omega
  refine vc_path [.pan (tE 2)] ?_
  simp [q1']
  refine⟨.need_f 2,?_⟩
  simp [oD]
 ·rw [if_neg q1]
  have q1':(l.length:Int)≤1024:=by omega
  refine vc_path [.ret (.tup [])] ?_
  simp [q1']
  refine⟨.need_t 2,?_⟩
  refine vc_loopK [0,9,10] (Nat×Int) (fun y=>[(11,true,.d (dI y.1)),(2,true,.d (dI y.2))]) (fun y=>[]) (fun y=>y.1≤l.length∧okRun y.2 (l.drop y.1)=okRun (-1) l) (fun y=>l.length-y.1) (0,-1) (by simp) ⟨[],[],?_⟩ (fun y hy=>?_)
  ·simp
  obtain⟨k,m⟩:=y
  obtain⟨h1,h2⟩:=hy
  simp only at h1 h2
  simp
  refine⟨fun hlt=>?_,fun hge=>?_⟩
  ·simp [hlt]
   rw [List.drop_eq_getElem_cons hlt,okRun] at h2
   have hrt:=C521.right l[k]
   generalize okSp l[k]=p1 at *
   cases p1 with
   | false =>
    refine vc_path [.ret (dB false),.pan (tE 490)] ?_
    simp [hlt] at hrt h2 ⊢
    refine⟨hrt,.need_f 490,?_⟩
    simp [oD,h2]
   | true =>
    by_cases q5:m<l[k].id
    ·refine vc_path [.ret (dB true),.ret (.tup [])] ?_
     simp [q5,hlt] at hrt h2 ⊢
     refine⟨hrt,.need_t 490,k+1,l[k].id,⟨by omega,h2⟩,by omega,[],[],?_⟩
     rw [wrap64 (by omega)]
     simp [dSp]
    ·refine vc_path [.ret (dB true),.pan (tE 490)] ?_
     simp [q5,hlt] at hrt h2 ⊢
     refine⟨hrt,.need_f 490,?_⟩
     simp [oD,h2]
  ·have:k=l.length:=by omega
   subst this
   rw [List.drop_length,okRun] at h2
   simp [oD,← h2]
theorem rRightC(c:Ch):PCall Tryz.prog 99 [dCh c] (.ret (dB (okCh c))):=by
 refine pcall_of_vc h521 c99 (by simp [a99]) fun hr=>?_
 simp [a99]
 have k1:=C521.rtime c.at_
 have k2:=C521.rright c.sp
 unfold okCh
 generalize okTm c.at_=p1 at *
 generalize okSp c.sp=p2 at *
 refine vc_path [.ret (dB p1),.ret (dB p2)] ?_
 by_cases q1:1≤c.kind <;> by_cases q2:c.kind≤3 <;> cases p1 <;> simp [q1,q2,dSp] at k1 k2 ⊢ <;> first | exact⟨k1,k2⟩ | exact k1
def kMapD:List (Value×D):=[(.int .i64 1,.agg [fnD 103,fnD 104]),(.int .i64 2,.agg [fnD 106,fnD 107]),(.int .i64 3,.agg [fnD 109,fnD 110])]
theorem dKinds:PCall Tryz.prog 59 [] (.retM kMapD):=by
 refine pcall_of_vc noC c59 (by simp [a59]) fun hr=>?_
 simp [a59,kMapD,fnD]
def ordI (x y:Int):Int:=if x<y then -1 else if x>y then 1 else 0
theorem ordI_lt{x y:Int}:ordI x y<0↔x<y:=by unfold ordI;by_cases h1:x<y <;> by_cases h2:x>y <;> simp [h1,h2] <;> omega
theorem ordI_eq{x y:Int}:ordI x y=0↔x=y:=by unfold ordI;by_cases h1:x<y <;> by_cases h2:x>y <;> simp [h1,h2] <;> omega
inductive C522:FuncId→List D→Out→Prop
 | cmp (x y:Int):C522 127 [dI x,dI y] (.ret (dI (ordI x y)))
theorem h522:∀ f ds out,C522 f ds out→PCall Tryz.prog f ds out:=by
 intro f ds out h
 cases h with
 | cmp x y=>exact nwCmpInt x y
theorem dCmp(id:Int) (x:Sp):PCall Tryz.prog 113 [dI id,dSp x,.agg []] (.ret (dI (ordI x.id id))):=by
 refine pcall_of_vc h522 c113 (by simp [a113]) fun hr=>?_
 simp [a113]
 refine vc_path [.ret (dI (ordI x.id id))] ?_
 simp
 exact .cmp _ _
theorem half64(i j:Nat) (h:i+j<9223372036854775808):IntKind.i64.wrap (((i+j) / 2:Nat):Int)=(((i+j) / 2:Nat):Int):=wrap64 (by omega)
theorem sh1(i j:Nat):shiftV false IntKind.u64 (((i+j:Nat)):Int) 1=.int .u64 (((i+j) / 2:Nat):Int):=by
 simp [shiftV,IntKind.bits]
 rw [Int.fdiv_eq_ediv_of_nonneg _ (by omega)]
inductive C522b (id:Int):FuncId→List D→Out→Prop
 | cmp (x:Sp):C522b id 113 [dI id,dSp x,.agg []] (.ret (dI (ordI x.id id)))
theorem h522b{id:Int}:∀ f ds out,C522b id f ds out→PCall Tryz.prog f ds out:=by
 intro f ds out h
 cases h with
 | cmp x=>exact dCmp id x
theorem dSearch(l:List Sp) (id m:Int) (hl:okRun m l=true) (hlen:l.length≤100000):PCall Tryz.prog 112 [.sl 3 (l.map dSp),.agg [],.fn (.func 113) [dI id] []] (.ret (.tup [dI (posL l id),dB (hasL l id)])):=by
 refine pcall_of_vc (h522b (id:=id)) c112 (by simp [a112]) fun hr=>?_
 simp [a112]
 refine vc_loopK [0,2,4,8] (Nat×Nat) (fun y=>[(9,true,.d (dI y.1)),(10,true,.d (dI y.2))]) (fun y=>[]) (fun y=>y.1≤y.2∧y.2≤l.length∧(∀ (k:Nat) (hk:k<l.length),k<y.1→l[k].id<id)∧(∀ (k:Nat) (hk:k<l.length),y.2≤k→¬ l[k].id<id)) (fun y=>y.2-y.1) (0,l.length) ⟨by omega,by omega,fun k hk h=>by omega,fun k hk h=>by omega⟩ ⟨[],[],?_⟩ (fun y hy=>?_)
 ·simp
 obtain⟨i,j⟩:=y
 obtain⟨h1,h2,h3,h4⟩:=hy
 simp only at h1 h2 h3 h4
 simp
 refine⟨fun hlt=>?_,fun hge=>?_⟩
 ·have hm:(i+j) / 2<l.length:=by omega
  have e1:IntKind.i64.wrap ((i:Int)+(j:Int))=((i+j:Nat):Int):=by rw [wrap64 (by omega)];omega
  have e2:IntKind.u64.wrap (((i+j:Nat)):Int)=((i+j:Nat):Int):=wrap_u64 (by omega) (by omega)
  have e3:=half64 i j (by omega)
  have e4:=sh1 i j
  have e5:IntKind.i64.wrap (((i+j) / 2:Nat)+1:Int)=(((i+j) / 2+1:Nat):Int):=by rw [wrap64 (by omega)];omega
  have k1:=C522b.cmp (id:=id) l[(i+j) / 2]
  rw [e1,e2,e4]
  simp only [e3]
  generalize hq:(i+j) / 2=q at *
  refine⟨trivial,vc_pathD [.ret (dI (ordI l[q].id id))] ?_⟩
  by_cases q5:l[q].id<id
  ·have q6:ordI l[q].id id<0:=ordI_lt.2 q5
   simp [hm,q6,e5]
   refine⟨k1,rfl,q+1,j,⟨by omega,h2,fun k hk hkq=>?_,fun k hk hj=>by have:=h4 k hk hj;omega⟩,by omega,[],[],?_⟩
   ·by_cases e:k=q
    ·subst e;exact q5
    ·have:=okRun_lt hl k q hk hm (by omega);omega
   ·simp
  ·have q6:¬ ordI l[q].id id<0:=fun h=>q5 (ordI_lt.1 h)
   simp [hm,q6,e5]
   refine⟨k1,rfl,i,q,⟨by omega,by omega,h3,fun k hk hkq=>?_⟩,by omega,[],[],?_⟩
   ·by_cases e:k=q
    ·subst e;omega
    ·have:=okRun_lt hl q k hm hk (by omega);omega
   ·simp
 ·have:i=j:=by omega
  subst this
  have hp:=posL_uniq hl h2 h3 h4
  rw [← hp]
  have hh:hasL l id=(match l[i]? with | some s=>decide (s.id=id) | none=>false):=by rw [hp];rfl
  rw [hh]
  by_cases hi:i<l.length
  ·have k1:=C522b.cmp (id:=id) l[i]
   refine vc_pathD [.ret (dI (ordI l[i].id id))] ?_
   simp [hi]
   have hq:(ordI l[i].id id == 0)=decide (l[i].id=id):=by
    rw [Bool.eq_iff_iff];simp [ordI_eq]
   exact⟨k1,rfl,leD_of_eq (by simp [hq,hi])⟩
  ·have hi':¬ (i:Int)<l.length:=by omega
   refine vc_pathD [] ?_
   simp [hi,hi']
   rfl
inductive C523:FuncId→List D→Out→Prop
 | need_t (n:Int):C523 101 [dB true,dI n] (.ret (.tup []))
 | need_f (n:Int):C523 101 [dB false,dI n] (.pan (tE n))
 | right (x:Sp):C523 102 [dSp x] (.ret (dB (okSp x)))
 | time (n:Int):C523 111 [dI n] (.ret (dB (okTm n)))
 | ck (l:List Sp):C523 58 [.sl 3 (l.map dSp)] (oD (dispE l))
 | kinds:C523 59 [] (.retM kMapD)
 | search (l:List Sp) (id m:Int) (hl:okRun m l=true) (hlen:l.length≤100000):C523 112 [.sl 3 (l.map dSp),.agg [],.fn (.func 113) [dI id] []] (.ret (.tup [dI (posL l id),dB (hasL l id)]))
theorem h523:∀ f ds out,C523 f ds out→PCall Tryz.prog f ds out:=by
 intro f ds out h
 cases h with
 | need_t n=>exact dNeed_t n
 | need_f n=>exact dNeed_f n
 | right x=>exact dRight x
 | time x=>exact dTime x
 | ck l=>exact dCheck l
 | kinds=>exact dKinds
 | search l id m hl hlen=>exact dSearch l id m hl hlen
theorem free2(a b:Value):Free (.tup [.lit a,.lit b]):=.tup (by simp;exact⟨.lit _,.lit _⟩)
theorem elsD_sps(l:List Sp):elsD 3 l.length (D.flat (l.map dSp))=l.map dSp:=by
 induction l with
 | nil=>rfl
 | cons a r ih =>
  have hl:=dSp_len a
  have e:D.flat ((a::r).map dSp)=(dSp a).cells++D.flat (r.map dSp):=rfl
  simp only [elsD] at ih ⊢
  rw [if_neg (by omega)] at ih ⊢
  rw [e,List.length_cons,chunkD,List.take_left' hl,List.drop_left' hl,ih]
  rfl
theorem elsD_sp1(p:Sp) (r:List Sp):elsD 3 (r.length+1) (D.flat (dSp p::r.map dSp))=dSp p::r.map dSp:=elsD_sps (p::r)
theorem flat_sps(l:List Sp):(D.flat (l.map dSp)).length=l.length*3:=by
 have:=flat_len (es:=l.map dSp) (sz:=3) (fun e he=>by
  obtain⟨p,_,rfl⟩:=List.mem_map.1 he
  exact dSp_len p)
 simpa using this
theorem map_eraseIdx'{α β:Type}(f:α→β) (l:List α) (k:Nat):(l.map f).eraseIdx k=(l.eraseIdx k).map f:=by
 induction l generalizing k with
 | nil=>rfl
 | cons a r ih=>cases k with
  | zero=>rfl
  | succ k=>simp [ih]
theorem hasL_get{l:List Sp}{id:Int}(h:hasL l id=true):∃ hp:posL l id<l.length,l[posL l id].id=id:=by
 unfold hasL at h
 split at h
 ·rename_i s hs
  obtain⟨hp,he⟩:=List.getElem?_eq_some_iff.1 hs
  exact⟨hp,by rw [he];simpa using h⟩
 ·cases h
theorem hasL_no{l:List Sp}{c:Ch}(h:hasL l c.sp.id=false) (hk:c.kind≠1):fitsL l c=false:=by
 unfold hasL at h
 unfold fitsL
 rw [if_neg hk]
 split at h
 ·rename_i s hs
  have h:s.id≠c.sp.id:=by simpa using h
  rw [hs]
  split
  ·simp;rintro rfl;exact h rfl
  ·simp [h]
 ·rename_i hn
  rw [hn];split <;> simp
theorem dDo(l:List Sp) (c:Ch):PCall Tryz.prog 27 [.sl 3 (l.map dSp),dCh c] (.ret (.tup [.sl 3 ((doDL l c).map dSp),dI (doDE l c)])):=by
 refine pcall_of_vcZ h523 c27 (by simp [a27]) 4 fun hr=>?_
 simp [a27]
 refine regS_path [] ?_
 simp
 have hc:=C523.ck l
 by_cases q:dispE l=0
 case neg =>
  have e1:doDE l c=dispE l:=by simp [doDE,q]
  have e2:doDL l c=[]:=by simp [doDL,e1,q]
  rw [e1,e2]
  refine vc_path [.pan (tE (dispE l))] ?_
  simp [oD,q] at hc ⊢
  refine⟨hc,?_⟩
  refine leave_fn (TR Tryz.prog a57) (dcall_of_vcR c57) ?_
  simp [a57,tE]
 obtain⟨hl1,hl2⟩:=dispE_ok q
 have hfail:(okCh c&&fitsL l c)=false→doDE l c=490∧doDL l c=[]:=fun h=>by
  have e1:doDE l c=490:=by simp only [doDE,q,h];simp
  exact⟨e1,by simp [doDL,e1]⟩
 rw [q] at hc
 simp only [oD,if_true] at hc
 refine vc_path [.ret (.tup [])] ?_
 simp
 refine⟨hc,vc_path [.retM kMapD] ?_⟩
 have hk:(c.kind=1∧((c.kind == 1)=true))∨(c.kind=2∧((c.kind == 1)=false)∧((c.kind == 2)=true))∨(c.kind=3∧((c.kind == 1)=false)∧((c.kind == 2)=false)∧((c.kind == 3)=true))∨(okCh c=false∧((c.kind == 1)=false)∧((c.kind == 2)=false)∧((c.kind == 3)=false)):=by
  by_cases k1:c.kind=1
  ·exact .inl ⟨k1,by simp [k1]⟩
  ·by_cases k2:c.kind=2
   ·exact .inr (.inl ⟨k2,by simp [k2],by simp [k2]⟩)
   ·by_cases k3:c.kind=3
    ·exact .inr (.inr (.inl ⟨k3,by simp [k3],by simp [k3],by simp [k3]⟩))
    ·have:okCh c=false:=by
      rw [Bool.eq_false_iff]
      intro h
      have:=okCh_sp h
      omega
     exact .inr (.inr (.inr ⟨this,by simp [k1],by simp [k2],by simp [k3]⟩))
 have hs:=C523.search l c.sp.id (-1) hl2 (by omega)
 have t1:=C523.time c.at_
 have t2:=C523.right c.sp
 have hok:okCh c=(okTm c.at_&&(decide (1≤c.kind)&&(decide (c.kind≤3)&&okSp c.sp))):=rfl
 rcases hk with ⟨k,e1⟩ | ⟨k,e1,e2⟩ | ⟨k,e1,e2,e3⟩ | ⟨k,e1,e2,e3⟩
 case inr.inr.inr =>
  obtain⟨g1,g2⟩:=hfail (by rw [k];rfl)
  rw [g1,g2]
  simp [kMapD,fnD]
  refine⟨.kinds,regS_path [] ?_⟩
  simp
  refine icall_T (TF Tryz.prog a60) (hcall_of_vc c60) ?_
  simp [a60,e1,e2,e3]
  refine vc_path [.ret (.tup []),.ret (.tup []),.pan (tE 490)] ?_
  simp
  refine⟨.need_f 490,?_⟩
  refine leave_fn (TR Tryz.prog a57) (dcall_of_vcR c57) ?_
  simp [a57,tE]
 case inl =>
  simp [kMapD,fnD]
  refine⟨.kinds,regS_path [] ?_⟩
  simp
  refine icall_T (TF Tryz.prog a60) (hcall_of_vc c60) ?_
  simp [a60,e1]
  by_cases p1:okTm c.at_=true
  case neg =>
   have p1:okTm c.at_=false:=by simpa using p1
   obtain⟨g1,g2⟩:=hfail (by rw [hok,p1];rfl)
   rw [g1,g2]
   rw [p1] at t1
   refine vc_path [.ret (dB false),.ret (.tup []),.pan (tE 490)] ?_
   simp
   refine⟨t1,.need_f 490,?_⟩
   refine leave_fn (TR Tryz.prog a57) (dcall_of_vcR c57) ?_
   simp [a57,tE]
  rw [p1] at t1
  by_cases p2:okSp c.sp=true
  case neg =>
   have p2:okSp c.sp=false:=by simpa using p2
   obtain⟨g1,g2⟩:=hfail (by rw [hok,p2];simp)
   rw [g1,g2]
   rw [p2] at t2
   refine vc_path [.ret (dB true),.ret (dB false),.pan (tE 490)] ?_
   simp
   refine⟨t1,t2,.need_f 490,?_⟩
   refine leave_fn (TR Tryz.prog a57) (dcall_of_vcR c57) ?_
   simp [a57,tE]
  rw [p2] at t2
  have hok1:okCh c=true:=by rw [hok,p1,p2];simp [k]
  refine vc_path [.ret (dB true),.ret (dB true),.ret (.tup [])] ?_
  simp
  refine⟨t1,t2,.need_t 490,?_⟩
  have hfit:fitsL l c=!hasL l c.sp.id:=by simp [fitsL,k]
  cases l with
  | nil =>
   have hfit:fitsL [] c=true:=by simp [hfit,hasL]
   have d1:doDE [] c=0:=by simp [doDE,q,hok1,hfit]
   have d2:doDL [] c=[c.sp]:=by simp [doDL,d1,makeL,k]
   rw [d1,d2]
   have hs:C523 112 [.sl 3 [],.agg [],.fn (.func 113) [dI c.sp.id] []] (.ret (.tup [dI 0,dB false])):=hs
   simp
   refine regK_path [] [] ?_
   simp
   refine⟨rfl,icall_T (TF Tryz.prog a61) (hcall_of_vc c61) ?_⟩
   simp [a61,e1]
   refine vc_path [.ret (.tup [dI 0,dB false])] ?_
   simp
   refine⟨hs,regS_path [.ret (.tup [])] ?_⟩
   simp
   refine icall_T (TF Tryz.prog a103) (hcall_of_vc c103) ?_
   simp [a103]
   refine⟨.need_t 490,regS_path [] ?_⟩
   simp
   refine icall_T (TF Tryz.prog a104) (hcall_of_vc c104) ?_
   simp [a104]
   have hel:elsD 3 1 (D.flat [.agg [.lit (.int .i64 c.sp.id),.lit (.int .i64 c.sp.ver),dZ c.sp.tx]])=[dSp c.sp]:=rfl
   refine⟨by simp [D.flat],vc_path [.ret (.tup [])] ?_⟩
   simp [hel]
   refine⟨.need_t 2,?_⟩
   refine leave_fn (TR Tryz.prog a57) (dcall_of_vcR c57) ?_
   simp [a57]
  | cons x r =>
   have hpl:=(posL_spec hl2 c.sp.id).1
   simp at hs hpl hl1
   have hfl:(r.length+1)*3≤(D.flat (dSp x::r.map dSp)).length:=by rw [show dSp x::r.map dSp=(x::r).map dSp from rfl,flat_sps];simp
   have hel:=elsD_sp1 x r
   cases hh:hasL (x::r) c.sp.id with
   | true =>
    obtain⟨g1,g2⟩:=hfail (by rw [hfit,hh];simp)
    rw [g1,g2]
    rw [hh] at hs
    generalize posL (x::r) c.sp.id=p at *
    simp
    refine regK_path [] [] ?_
    simp
    refine⟨by omega,rfl,icall_T (TF Tryz.prog a61) (hcall_of_vc c61) ?_⟩
    simp [a61,e1]
    refine vc_path [.ret (.tup [dI p,dB true])] ?_
    simp [hfl,hel]
    refine⟨hs,free2 _ _,regS_path [.pan (tE 490)] ?_⟩
    simp
    refine icall_T (TF Tryz.prog a103) (hcall_of_vc c103) ?_
    simp [a103]
    refine⟨.need_f 490,?_⟩
    refine leave_fn (TR Tryz.prog a57) (dcall_of_vcR c57) ?_
    simp [a57,tE]
   | false =>
    have hfit:fitsL (x::r) c=true:=by simp [hfit,hh]
    rw [hh] at hs
    have hmk:makeL (x::r) c=(x::r).take (posL (x::r) c.sp.id)++c.sp::(x::r).drop (posL (x::r) c.sp.id):=by simp [makeL,k]
    have hde:doDE (x::r) c=if (x::r).length=1024 then 2 else 0:=by simp [doDE,q,hok1,hfit,k]
    have hdl:doDL (x::r) c=if (x::r).length=1024 then [] else (x::r).take (posL (x::r) c.sp.id)++c.sp::(x::r).drop (posL (x::r) c.sp.id):=by
     unfold doDL;rw [hde,hmk]
     by_cases e:(x::r).length=1024
     ·rw [if_pos e,if_pos e];rfl
     ·rw [if_neg e,if_neg e];rfl
    have hto:((posL (x::r) c.sp.id:Int)).toNat=posL (x::r) c.sp.id:=by omega
    rw [hde,hdl]
    generalize posL (x::r) c.sp.id=p at *
    have hel1:elsD 3 1 (D.flat [.agg [.lit (.int .i64 c.sp.id),.lit (.int .i64 c.sp.ver),dZ c.sp.tx]])=[dSp c.sp]:=rfl
    refine regK_path [] [] ?_
    simp
    refine⟨by omega,rfl,icall_T (TF Tryz.prog a61) (hcall_of_vc c61) ?_⟩
    simp [a61,e1]
    refine vc_path [.ret (.tup [dI p,dB false])] ?_
    simp [hfl,hel]
    refine⟨hs,free2 _ _,regS_path [.ret (.tup [])] ?_⟩
    simp
    refine icall_T (TF Tryz.prog a103) (hcall_of_vc c103) ?_
    simp [a103]
    refine⟨.need_t 490,regS_path [] ?_⟩
    simp
    refine icall_T (TF Tryz.prog a104) (hcall_of_vc c104) ?_
    simp [a104,hel,hel1]
    have hl3:3≤(D.flat [.agg [.lit (.int .i64 c.sp.id),.lit (.int .i64 c.sp.ver),dZ c.sp.tx]]).length:=by simp [D.flat]
    refine⟨⟨by omega,⟨hfl,hl3⟩,by omega,by omega⟩,?_⟩
    have hmn:((min p (r.length+1):Nat):Int)+(((r.length+1-p:Nat):Int)+1)=(r.length:Int)+2:=by omega
    by_cases e:r.length+1=1024
    ·have e2:¬ (r.length:Int)+2≤1024:=by omega
     refine vc_path [.pan (tE 2)] ?_
     simp [hmn,e2]
     refine⟨.need_f 2,?_⟩
     refine leave_fn (TR Tryz.prog a57) (dcall_of_vcR c57) ?_
     simp [a57,tE,show r.length=1023 by omega]
    ·have e2:(r.length:Int)+2≤1024:=by omega
     refine vc_path [.ret (.tup [])] ?_
     simp [hmn,e2]
     refine⟨.need_t 2,?_⟩
     refine leave_fn (TR Tryz.prog a57) (dcall_of_vcR c57) ?_
     simp [a57,show ¬ r.length=1023 by omega,List.map_take,List.map_drop]
 case inr.inl =>
  simp [kMapD,fnD]
  refine⟨.kinds,regS_path [] ?_⟩
  simp
  refine icall_T (TF Tryz.prog a60) (hcall_of_vc c60) ?_
  simp [a60,e1,e2]
  by_cases p1:okTm c.at_=true
  case neg =>
   have p1:okTm c.at_=false:=by simpa using p1
   obtain⟨g1,g2⟩:=hfail (by rw [hok,p1];rfl)
   rw [g1,g2]
   rw [p1] at t1
   refine vc_path [.ret (dB false),.ret (.tup []),.pan (tE 490)] ?_
   simp
   refine⟨t1,.need_f 490,?_⟩
   refine leave_fn (TR Tryz.prog a57) (dcall_of_vcR c57) ?_
   simp [a57,tE]
  rw [p1] at t1
  by_cases p2:okSp c.sp=true
  case neg =>
   have p2:okSp c.sp=false:=by simpa using p2
   obtain⟨g1,g2⟩:=hfail (by rw [hok,p2];simp)
   rw [g1,g2]
   rw [p2] at t2
   refine vc_path [.ret (dB true),.ret (dB false),.pan (tE 490)] ?_
   simp
   refine⟨t1,t2,.need_f 490,?_⟩
   refine leave_fn (TR Tryz.prog a57) (dcall_of_vcR c57) ?_
   simp [a57,tE]
  rw [p2] at t2
  have hok1:okCh c=true:=by rw [hok,p1,p2];simp [k]
  refine vc_path [.ret (dB true),.ret (dB true),.ret (.tup [])] ?_
  simp
  refine⟨t1,t2,.need_t 490,?_⟩
  cases l with
  | nil =>
   obtain⟨g1,g2⟩:=hfail (by rw [show fitsL [] c=false by simp [fitsL,k]];simp)
   rw [g1,g2]
   have hs:C523 112 [.sl 3 [],.agg [],.fn (.func 113) [dI c.sp.id] []] (.ret (.tup [dI 0,dB false])):=hs
   simp
   refine regK_path [] [] ?_
   simp
   refine⟨rfl,icall_T (TF Tryz.prog a61) (hcall_of_vc c61) ?_⟩
   simp [a61,e1,e2]
   refine vc_path [.ret (.tup [dI 0,dB false])] ?_
   simp
   refine⟨hs,regS_path [.pan (tE 490)] ?_⟩
   simp
   refine icall_T (TF Tryz.prog a106) (hcall_of_vc c106) ?_
   simp [a106]
   refine vc_pathD [] ?_
   simp
   refine⟨rfl,.need_f 490,?_⟩
   refine leave_fn (TR Tryz.prog a57) (dcall_of_vcR c57) ?_
   simp [a57,tE]
  | cons x r =>
   have hpl:=(posL_spec hl2 c.sp.id).1
   simp at hs hpl hl1
   have hfl:(r.length+1)*3≤(D.flat (dSp x::r.map dSp)).length:=by rw [show dSp x::r.map dSp=(x::r).map dSp from rfl,flat_sps];simp
   have hel:=elsD_sp1 x r
   cases hh:hasL (x::r) c.sp.id with
   | false =>
    obtain⟨g1,g2⟩:=hfail (by rw [hasL_no hh (by omega)];simp)
    rw [g1,g2]
    rw [hh] at hs
    generalize posL (x::r) c.sp.id=p at *
    simp
    refine regK_path [] [] ?_
    simp
    refine⟨by omega,rfl,icall_T (TF Tryz.prog a61) (hcall_of_vc c61) ?_⟩
    simp [a61,e1,e2]
    refine vc_path [.ret (.tup [dI p,dB false])] ?_
    simp [hfl,hel]
    refine⟨hs,free2 _ _,regS_path [.pan (tE 490)] ?_⟩
    simp
    refine icall_T (TF Tryz.prog a106) (hcall_of_vc c106) ?_
    simp [a106]
    refine vc_pathD [] ?_
    simp
    refine⟨rfl,.need_f 490,?_⟩
    refine leave_fn (TR Tryz.prog a57) (dcall_of_vcR c57) ?_
    simp [a57,tE]
   | true =>
    rw [hh] at hs
    obtain⟨hp,hid⟩:=hasL_get hh
    have hpi:posL (x::r) c.sp.id<r.length+1:=hp
    have hmk:makeL (x::r) c=(x::r).eraseIdx (posL (x::r) c.sp.id):=by simp [makeL,k]
    have hto:((posL (x::r) c.sp.id:Int)).toNat=posL (x::r) c.sp.id:=by omega
    have hde:doDE (x::r) c=if fitsL (x::r) c=true then 0 else 490:=by
     unfold doDE
     rw [if_neg (by rw [q];simp),hok1,Bool.true_and]
     cases fitsL (x::r) c <;> simp [k]
    have hdl:doDL (x::r) c=if fitsL (x::r) c=true then makeL (x::r) c else []:=by
     unfold doDL;rw [hde]
     cases fitsL (x::r) c <;> simp
    rw [hmk] at hdl
    generalize hp0:posL (x::r) c.sp.id=p at *
    obtain⟨S,hS⟩:∃ S,S=(x::r)[p]:=⟨_,rfl⟩
    rw [← hS] at hid
    have hgetS:(x::r)[p]?=some S:=by rw [hS];exact List.getElem?_eq_getElem hp
    have hgetD:(dSp x::r.map dSp)[p]?=some (dSp S):=by rw [show dSp x::r.map dSp=(x::r).map dSp from rfl,List.getElem?_map,hgetS];rfl
    have hz:∀ e∈dSp x::r.map dSp,e.cells.length=3:=fun e he=>by
     rw [show dSp x::r.map dSp=(x::r).map dSp from rfl] at he
     obtain⟨y,_,rfl⟩:=List.mem_map.1 he
     exact dSp_len y
    have hwt:((wr (dSp x::r.map dSp)).drop (p*3)).take 3=[.d (.lit (.int .i64 S.id)),.d (.lit (.int .i64 S.ver)),.d (dZ S.tx)]:=wr_take hz hgetD
    have hw1:(wr (dSp x::r.map dSp))[p*3+1]?=some (.d (.lit (.int .i64 S.ver))):=wr_get hz hgetD (d:=.lit (.int .i64 S.ver)) rfl
    have heq:eqB [.lit (.int .i64 S.id),.lit (.int .i64 S.ver),dZ S.tx] [.lit (.int .i64 c.sp.id),.lit (.int .i64 c.sp.ver),dZ c.sp.tx]=decide (S=c.sp):=eqB_sp S c.sp
    have hec:eqC [.int .i64,.int .i64,.str] [.lit (.int .i64 S.id),.lit (.int .i64 S.ver),dZ S.tx] [.lit (.int .i64 c.sp.id),.lit (.int .i64 c.sp.ver),dZ c.sp.tx]=True:=by simp [eqC,dZ]
    have hfl3:p*3+3≤(D.flat (dSp x::r.map dSp)).length:=by omega
    have hfl4:p*3+1+1≤(D.flat (dSp x::r.map dSp)).length:=by omega
    have hpI:(p:Int)<(r.length:Int)+1:=by omega
    rw [hde,hdl]
    have hft:fitsL (x::r) c=decide (S=c.sp):=by
     unfold fitsL
     rw [hp0,hgetS]
     simp [k,hid]
    rw [hft]
    simp
    refine regK_path [] [] ?_
    simp
    refine⟨by omega,rfl,icall_T (TF Tryz.prog a61) (hcall_of_vc c61) ?_⟩
    simp [a61,e1,e2]
    refine vc_path [.ret (.tup [dI p,dB true])] ?_
    simp [hfl,hel]
    by_cases hS2:S=c.sp
    case neg =>
     have hb:decide (S=c.sp)=false:=by simp [hS2]
     rw [hb] at heq
     refine⟨hs,free2 _ _,regS_path [.pan (tE 490)] ?_⟩
     simp
     refine icall_T (TF Tryz.prog a106) (hcall_of_vc c106) ?_
     simp [a106]
     refine vc_pathD [] ?_
     simp [hto,hpI,hfl3,hwt,heq,hec]
     refine⟨rfl,.need_f 490,?_⟩
     refine leave_fn (TR Tryz.prog a57) (dcall_of_vcR c57) ?_
     simp [a57,tE,hS2]
    have hb:decide (S=c.sp)=true:=by simp [hS2]
    rw [hb] at heq
    refine⟨hs,free2 _ _,regS_path [.ret (.tup [])] ?_⟩
    simp
    refine icall_T (TF Tryz.prog a106) (hcall_of_vc c106) ?_
    simp [a106]
    refine vc_pathD [] ?_
    simp [hto,hpI,hfl3,hwt,heq,hec]
    refine⟨rfl,.need_t 490,regS_path [] ?_⟩
    simp
    refine icall_T (TF Tryz.prog a107) (hcall_of_vc c107) ?_
    simp [a107]
    have hw1:IntKind.i64.wrap ((p:Int)+1)=(p:Int)+1:=wrap64 (by omega)
    have hle:((dSp x::r.map dSp).eraseIdx p).length=r.length:=by rw [List.length_eraseIdx,if_pos (by simp;omega)];simp
    have hl4:(r.length:Int)≤1024:=by omega
    refine⟨⟨⟨hpI,hw1⟩,hfl⟩,vc_path [.ret (.tup [])] ?_⟩
    simp [hel,hle,hl4]
    refine⟨.need_t 2,?_⟩
    refine leave_fn (TR Tryz.prog a57) (dcall_of_vcR c57) ?_
    simp [a57,hS2,hto]
    exact leD_of_eq (by rw [show dSp x::r.map dSp=(x::r).map dSp from rfl,map_eraseIdx'])
 case inr.inr.inl =>
  simp [kMapD,fnD]
  refine⟨.kinds,regS_path [] ?_⟩
  simp
  refine icall_T (TF Tryz.prog a60) (hcall_of_vc c60) ?_
  simp [a60,e1,e2,e3]
  by_cases p1:okTm c.at_=true
  case neg =>
   have p1:okTm c.at_=false:=by simpa using p1
   obtain⟨g1,g2⟩:=hfail (by rw [hok,p1];rfl)
   rw [g1,g2]
   rw [p1] at t1
   refine vc_path [.ret (dB false),.ret (.tup []),.pan (tE 490)] ?_
   simp
   refine⟨t1,.need_f 490,?_⟩
   refine leave_fn (TR Tryz.prog a57) (dcall_of_vcR c57) ?_
   simp [a57,tE]
  rw [p1] at t1
  by_cases p2:okSp c.sp=true
  case neg =>
   have p2:okSp c.sp=false:=by simpa using p2
   obtain⟨g1,g2⟩:=hfail (by rw [hok,p2];simp)
   rw [g1,g2]
   rw [p2] at t2
   refine vc_path [.ret (dB true),.ret (dB false),.pan (tE 490)] ?_
   simp
   refine⟨t1,t2,.need_f 490,?_⟩
   refine leave_fn (TR Tryz.prog a57) (dcall_of_vcR c57) ?_
   simp [a57,tE]
  rw [p2] at t2
  have hok1:okCh c=true:=by rw [hok,p1,p2];simp [k]
  refine vc_path [.ret (dB true),.ret (dB true),.ret (.tup [])] ?_
  simp
  refine⟨t1,t2,.need_t 490,?_⟩
  cases l with
  | nil =>
   obtain⟨g1,g2⟩:=hfail (by rw [show fitsL [] c=false by simp [fitsL,k]];simp)
   rw [g1,g2]
   have hs:C523 112 [.sl 3 [],.agg [],.fn (.func 113) [dI c.sp.id] []] (.ret (.tup [dI 0,dB false])):=hs
   simp
   refine regK_path [] [] ?_
   simp
   refine⟨rfl,icall_T (TF Tryz.prog a61) (hcall_of_vc c61) ?_⟩
   simp [a61,e1,e2,e3]
   refine vc_path [.ret (.tup [dI 0,dB false])] ?_
   simp
   refine⟨hs,regS_path [.pan (tE 490)] ?_⟩
   simp
   refine icall_T (TF Tryz.prog a109) (hcall_of_vc c109) ?_
   simp [a109]
   refine vc_pathD [] ?_
   simp
   refine⟨rfl,.need_f 490,?_⟩
   refine leave_fn (TR Tryz.prog a57) (dcall_of_vcR c57) ?_
   simp [a57,tE]
  | cons x r =>
   have hpl:=(posL_spec hl2 c.sp.id).1
   simp at hs hpl hl1
   have hfl:(r.length+1)*3≤(D.flat (dSp x::r.map dSp)).length:=by rw [show dSp x::r.map dSp=(x::r).map dSp from rfl,flat_sps];simp
   have hel:=elsD_sp1 x r
   cases hh:hasL (x::r) c.sp.id with
   | false =>
    obtain⟨g1,g2⟩:=hfail (by rw [hasL_no hh (by omega)];simp)
    rw [g1,g2]
    rw [hh] at hs
    generalize posL (x::r) c.sp.id=p at *
    simp
    refine regK_path [] [] ?_
    simp
    refine⟨by omega,rfl,icall_T (TF Tryz.prog a61) (hcall_of_vc c61) ?_⟩
    simp [a61,e1,e2,e3]
    refine vc_path [.ret (.tup [dI p,dB false])] ?_
    simp [hfl,hel]
    refine⟨hs,free2 _ _,regS_path [.pan (tE 490)] ?_⟩
    simp
    refine icall_T (TF Tryz.prog a109) (hcall_of_vc c109) ?_
    simp [a109]
    refine vc_pathD [] ?_
    simp
    refine⟨rfl,.need_f 490,?_⟩
    refine leave_fn (TR Tryz.prog a57) (dcall_of_vcR c57) ?_
    simp [a57,tE]
   | true =>
    rw [hh] at hs
    obtain⟨hp,hid⟩:=hasL_get hh
    have hpi:posL (x::r) c.sp.id<r.length+1:=hp
    have hmk:makeL (x::r) c=(x::r).set (posL (x::r) c.sp.id) c.sp:=by simp [makeL,k]
    have hto:((posL (x::r) c.sp.id:Int)).toNat=posL (x::r) c.sp.id:=by omega
    have hde:doDE (x::r) c=if fitsL (x::r) c=true then 0 else 490:=by
     unfold doDE
     rw [if_neg (by rw [q];simp),hok1,Bool.true_and]
     cases fitsL (x::r) c <;> simp [k]
    have hdl:doDL (x::r) c=if fitsL (x::r) c=true then makeL (x::r) c else []:=by
     unfold doDL;rw [hde]
     cases fitsL (x::r) c <;> simp
    rw [hmk] at hdl
    generalize hp0:posL (x::r) c.sp.id=p at *
    obtain⟨S,hS⟩:∃ S,S=(x::r)[p]:=⟨_,rfl⟩
    rw [← hS] at hid
    have hgetS:(x::r)[p]?=some S:=by rw [hS];exact List.getElem?_eq_getElem hp
    have hgetD:(dSp x::r.map dSp)[p]?=some (dSp S):=by rw [show dSp x::r.map dSp=(x::r).map dSp from rfl,List.getElem?_map,hgetS];rfl
    have hz:∀ e∈dSp x::r.map dSp,e.cells.length=3:=fun e he=>by
     rw [show dSp x::r.map dSp=(x::r).map dSp from rfl] at he
     obtain⟨y,_,rfl⟩:=List.mem_map.1 he
     exact dSp_len y
    have hwt:((wr (dSp x::r.map dSp)).drop (p*3)).take 3=[.d (.lit (.int .i64 S.id)),.d (.lit (.int .i64 S.ver)),.d (dZ S.tx)]:=wr_take hz hgetD
    have hw1:(wr (dSp x::r.map dSp))[p*3+1]?=some (.d (.lit (.int .i64 S.ver))):=wr_get hz hgetD (d:=.lit (.int .i64 S.ver)) rfl
    have heq:eqB [.lit (.int .i64 S.id),.lit (.int .i64 S.ver),dZ S.tx] [.lit (.int .i64 c.sp.id),.lit (.int .i64 c.sp.ver),dZ c.sp.tx]=decide (S=c.sp):=eqB_sp S c.sp
    have hec:eqC [.int .i64,.int .i64,.str] [.lit (.int .i64 S.id),.lit (.int .i64 S.ver),dZ S.tx] [.lit (.int .i64 c.sp.id),.lit (.int .i64 c.sp.ver),dZ c.sp.tx]=True:=by simp [eqC,dZ]
    have hfl3:p*3+3≤(D.flat (dSp x::r.map dSp)).length:=by omega
    have hfl4:p*3+1+1≤(D.flat (dSp x::r.map dSp)).length:=by omega
    have hpI:(p:Int)<(r.length:Int)+1:=by omega
    rw [hde,hdl]
    have hft:fitsL (x::r) c=decide (S.ver≠c.sp.ver):=by
     unfold fitsL
     rw [hp0,hgetS]
     simp [k,hid]
    rw [hft]
    simp
    refine regK_path [] [] ?_
    simp
    refine⟨by omega,rfl,icall_T (TF Tryz.prog a61) (hcall_of_vc c61) ?_⟩
    simp [a61,e1,e2,e3]
    refine vc_path [.ret (.tup [dI p,dB true])] ?_
    simp [hfl,hel]
    by_cases hS2:S.ver≠c.sp.ver
    case neg =>
     have hb:(S.ver != c.sp.ver)=false:=by simpa using hS2
     refine⟨hs,free2 _ _,regS_path [.pan (tE 490)] ?_⟩
     simp
     refine icall_T (TF Tryz.prog a109) (hcall_of_vc c109) ?_
     simp [a109]
     refine vc_pathD [] ?_
     simp [hto,hpI,hfl4,hw1,hb]
     refine⟨rfl,.need_f 490,?_⟩
     refine leave_fn (TR Tryz.prog a57) (dcall_of_vcR c57) ?_
     simp [a57,tE,show S.ver=c.sp.ver by simpa using hS2]
    have hb:(S.ver != c.sp.ver)=true:=by simpa using hS2
    refine⟨hs,free2 _ _,regS_path [.ret (.tup [])] ?_⟩
    simp
    refine icall_T (TF Tryz.prog a109) (hcall_of_vc c109) ?_
    simp [a109]
    refine vc_pathD [] ?_
    simp [hto,hpI,hfl4,hw1,hb]
    refine⟨rfl,.need_t 490,regS_path [] ?_⟩
    simp
    refine icall_T (TF Tryz.prog a110) (hcall_of_vc c110) ?_
    simp [a110]
    have hl4:(r.length:Int)+1≤1024:=by omega
    refine⟨hpI,hfl3,vc_path [.ret (.tup [])] ?_⟩
    simp [hl4]
    refine⟨.need_t 2,?_⟩
    refine leave_fn (TR Tryz.prog a57) (dcall_of_vcR c57) ?_
    have hws:(((wr (dSp x::r.map dSp)).set (p*3) (.d (.lit (.int .i64 c.sp.id)))).set (p*3+1) (.d (.lit (.int .i64 c.sp.ver)))).set (p*3+1+1) (.d (dZ c.sp.tx))=wr (((x::r).set p c.sp).map dSp):=by
     rw [List.map_set]
     exact wr_set3 hz (by simp;omega)
    have hln:((x::r).set p c.sp).length=r.length+1:=by simp
    have hel2:=elsD_sps ((x::r).set p c.sp)
    have hfl2:=flat_sps ((x::r).set p c.sp)
    rw [hln] at hel2 hfl2
    have hst:(dSp x::r.map dSp).set p (dSp c.sp)=((x::r).set p c.sp).map dSp:=by rw [List.map_set];rfl
    simp [a57,hS2]
    rw [hws,allD_wr,hst]
    simp only [hel2,hfl2]
    exact⟨Nat.le_refl _,LeD.refl _⟩
end

section
end

section
attribute [local simp] dZ_agg dZ_nt dZ_noTup dZ_cells dZ_one bz_toList bz_size strV dSp_cells dSp_isAgg dSp_noTup dSp_nt dCh_cells dCh_isAgg dCh_noTup dCh_nt
set_option maxRecDepth 8000
set_option maxHeartbeats 4000000
theorem rSame49(x y:List Sp):PCall Tryz.prog 21 [.sl 3 (x.map dSp),.sl 3 (y.map dSp)] (.ret (dB (decide (x=y)))):=by
 refine pcall_of_vc noC c21 (by simp [a21]) fun hr=>?_
 have hlen:=(hr (.sl 3 (x.map dSp)) (by simp)).sl.1
 simp at hlen
 simp [a21]
 have hno:¬ x=y→LeD (dB false) (dB (decide (x=y))):=fun h=>leD_of_eq (by simp [h])
 refine⟨fun h=>hno (fun e=>h (by rw [e])),fun h=>?_⟩
 refine vc_loopK [0,1] Nat (fun i=>[(5,true,.d (dI i))]) (fun _=>[]) (fun i=>i≤x.length∧∀ j,(h:j<i)→(h2:j<x.length)→(h3:j<y.length)→x[j]=y[j]) (fun i=>x.length-i) 0 (by simp) ⟨[],[],?_⟩ (fun i hi=>?_)
 ·simp
 obtain⟨g1,g2⟩:=hi
 simp
 refine⟨fun hlt=>?_,fun hge=>?_⟩
 ·have hlt2:i<y.length:=by omega
  have heq:eqB [.lit (.int .i64 x[i].id),.lit (.int .i64 x[i].ver),dZ x[i].tx] [.lit (.int .i64 y[i].id),.lit (.int .i64 y[i].ver),dZ y[i].tx]=decide (x[i]=y[i]):=eqB_sp x[i] y[i]
  have hec:eqC [.int .i64,.int .i64,.str] [.lit (.int .i64 x[i].id),.lit (.int .i64 x[i].ver),dZ x[i].tx] [.lit (.int .i64 y[i].id),.lit (.int .i64 y[i].ver),dZ y[i].tx]=True:=by simp [eqC,dZ]
  simp [hlt,hlt2,heq,hec,dSp]
  refine⟨rfl,fun h=>hno (fun e=>by subst e;exact h rfl),fun h=>⟨i+1,⟨by omega,fun j hj q1 q2=>?_⟩,by omega,[],[],?_⟩⟩
  ·by_cases e:j=i
   ·subst e;exact h
   ·exact g2 j (by omega) q1 q2
  ·rw [wrap64 (by omega)];simp
 ·have:x=y:=List.ext_getElem (by omega) (fun j q1 q2=>g2 j (by omega) q1 q2)
  exact leD_of_eq (by simp [this])
end

section
attribute [local simp] dZ_agg dZ_nt dZ_noTup dZ_cells dZ_one bz_toList bz_size strV dV_cells dV_isAgg dV_noTup dV_nt
set_option maxRecDepth 8000
set_option maxHeartbeats 4000000
theorem tE_free(n:Int):Free (tE n):=.ifc (.lit _)
theorem want_t(x:D):PCall Tryz.prog 131 [x,dB true] (.ret (.tup [])):=by
 refine pcall_of_vc noC c131 (by simp [a131]) fun hr=>?_
 simp [a131]
theorem want_f(x:D):PCall Tryz.prog 131 [x,dB false] (.pan (tE 10)):=by
 refine pcall_of_vc noC c131 (by simp [a131]) fun hr=>?_
 simp [a131]
 refine regS_path [] ?_
 simp [tE]
inductive C526:FuncId→List D→Out→Prop
 | want_t (x:D):C526 131 [x,dB true] (.ret (.tup []))
 | want_f (x:D):C526 131 [x,dB false] (.pan (tE 10))
theorem h526:∀ f ds out,C526 f ds out→PCall Tryz.prog f ds out:=by
 intro f ds out h
 cases h with
 | want_t x=>exact want_t x
 | want_f x=>exact want_f x
theorem take_ok(b:List UInt8) (n:Nat) (hn:n≤b.length):BCall Tryz.prog 151 [.sl 1 (b.map dU)] [dI n] (.ret (.sl 1 ((b.take n).map dU))) (fun c=>c=[.sl 1 ((b.drop n).map dU)]):=by
 refine bcall_of_vc h526 c151 (by simp [a151]) fun hr1 hr=>?_
 have hlen:=(hr1 (.sl 1 (b.map dU)) (by simp)).sl.1
 simp at hlen
 have hn':(n:Int)≤b.length:=by omega
 simp [a151]
 refine vc_path [.ret (.tup [])] ?_
 simp [hn']
 exact⟨.want_t _,.tup (by simp),leD_of_eq (by rw [List.take_of_length_le (by simp)])⟩
theorem take_no(b:List UInt8) (n:Nat) (hn:b.length<n):BCall Tryz.prog 151 [.sl 1 (b.map dU)] [dI n] (.pan (tE 10)) (fun _=>True):=by
 refine bcall_of_vc h526 c151 (by simp [a151]) fun hr1 hr=>?_
 have hn':¬ (n:Int)≤b.length:=by omega
 simp [a151]
 refine vc_path [.pan (tE 10)] ?_
 simp [hn']
 exact⟨.want_f _,tE_free 10,[.sl 1 (b.map dU)],leL_map _ _ _ 3 [.sl 1 (b.map dU)],by simp⟩
theorem or_add(acc x i:Nat) (h:acc<128 ^ i):acc|||(x*128 ^ i)=acc+x*128 ^ i:=by
 have e:(128:Nat) ^ i=2 ^ (7*i):=by rw [Nat.pow_mul]
 rw [e] at h ⊢
 have:=Nat.shiftLeft_add_eq_or_of_lt h x
 rw [Nat.shiftLeft_eq] at this
 rw [Nat.or_comm,← this,Nat.add_comm]
theorem and127(n:Nat) (h:n<256):(n % 2 ^ IntKind.u8.bits&&&127 % 2 ^ IntKind.u8.bits)=n % 128:=by
 have e1:n % 2 ^ IntKind.u8.bits=n:=by simp [IntKind.bits];omega
 have e2:127 % 2 ^ IntKind.u8.bits=2 ^ 7-1:=by decide
 rw [e1,e2,Nat.and_two_pow_sub_one_eq_mod]
theorem num_arith(i acc:Nat) (c:UInt8) (g1:i≤9) (g2:acc<128 ^ i) (hgood2:i<9∨c≤1):∃ q sm:Nat,q=c.toNat % 128*128 ^ i∧sm=acc+q∧sm<128 ^ (i+1) ∧
  shiftV true IntKind.u64 (IntKind.u64.wrap (IntKind.u8.wrap ((c.toNat % 2 ^ IntKind.u8.bits&&&127 % 2 ^ IntKind.u8.bits:Nat):Int))) (7*(i:Int))=.int .u64 (q:Int) ∧
  IntKind.u64.wrap ((acc % 2 ^ IntKind.u64.bits|||q % 2 ^ IntKind.u64.bits:Nat):Int)=(sm:Int):=by
 have hcl:=c.toNat_lt
 have hi2:(7*(i:Int))=((7*i:Nat):Int):=by omega
 have hand:(c.toNat % 2 ^ IntKind.u8.bits&&&127 % 2 ^ IntKind.u8.bits)=c.toNat % 128:=and127 c.toNat hcl
 have hp128:128 ^ i≤128 ^ 9:=Nat.pow_le_pow_right (by omega) g1
 have h9:(128:Nat) ^ 9=9223372036854775808:=by decide
 have h8:i<9→128 ^ i*128≤9223372036854775808:=fun h=>by
  rw [← Nat.pow_succ,← h9];exact Nat.pow_le_pow_right (by omega) (by omega)
 have hc128:c.toNat % 128<128:=Nat.mod_lt _ (by omega)
 have hprod:c.toNat % 128*128 ^ i≤9223372036854775808:=by
  rcases hgood2 with h | h
  ·have:=h8 h
   have h2:c.toNat % 128*128 ^ i≤128*128 ^ i:=Nat.mul_le_mul_right _ (by omega)
   rw [Nat.mul_comm 128] at h2;omega
  ·rw [UInt8.le_iff_toNat_le] at h
   have h:c.toNat≤1:=h
   have h2:c.toNat % 128*128 ^ i≤1*128 ^ i:=Nat.mul_le_mul_right _ (by omega)
   omega
 obtain⟨q,hq⟩:∃ q,q=c.toNat % 128*128 ^ i:=⟨_,rfl⟩
 have e2:shiftV true IntKind.u64 (IntKind.u64.wrap (IntKind.u8.wrap ((c.toNat % 2 ^ IntKind.u8.bits&&&127 % 2 ^ IntKind.u8.bits:Nat):Int))) (7*(i:Int))=.int .u64 (q:Int):=by
  rw [hand,hi2]
  have q1:IntKind.u8.wrap ((c.toNat % 128:Nat):Int)=((c.toNat % 128:Nat):Int):=by simp [IntKind.wrap,IntKind.bits,IntKind.signed];omega
  rw [q1,wrap_u64 (by omega) (by omega)]
  have q2:min ((7*i:Nat):Int).toNat IntKind.u64.bits=7*i:=by simp [IntKind.bits];omega
  have q3:((c.toNat % 128:Nat):Int)*2 ^ (7*i)=(q:Int):=by
   rw [hq,show (128:Nat) ^ i=2 ^ (7*i) by rw [Nat.pow_mul]];simp
  unfold shiftV
  rw [q2,if_pos rfl,q3,wrap_u64 (by omega) (by omega)]
 have hsum:acc+q<18446744073709551616:=by omega
 obtain⟨sm,hsm⟩:∃ sm,sm=acc+q:=⟨_,rfl⟩
 have e3:IntKind.u64.wrap ((acc % 2 ^ IntKind.u64.bits|||q % 2 ^ IntKind.u64.bits:Nat):Int)=(sm:Int):=by
  have q1:acc % 2 ^ IntKind.u64.bits=acc:=by simp [IntKind.bits];omega
  have q2:q % 2 ^ IntKind.u64.bits=q:=by simp [IntKind.bits];omega
  rw [q1,q2,hq,or_add _ _ _ g2,← hq,← hsm,wrap_u64 (by omega) (by omega)]
 have hpow:128 ^ (i+1)=128 ^ i*128:=Nat.pow_succ ..
 have hsm2:sm<128 ^ (i+1):=by
  have:q+128 ^ i≤128 ^ i*128:=by
   rw [hq,Nat.mul_comm (128 ^ i) 128,← Nat.succ_mul];exact Nat.mul_le_mul_right _ (by omega)
  omega
 exact⟨q,sm,hq,hsm,hsm2,e2,e3⟩
theorem number_ok(b r:List UInt8) (u:Nat) (h:pNum 0 b=some (u,r)):BCall Tryz.prog 153 [.sl 1 (b.map dU)] [] (.ret (.lit (.int .u64 u))) (fun c=>c=[.sl 1 (r.map dU)]):=by
 refine bcall_of_vc h526 c153 (by simp [a153]) fun hr1 hr=>?_
 simp [a153]
 refine vc_loopK [0] (Nat×Nat×List UInt8) (fun x=>[(3,true,.d (dI x.1)),(2,true,.d (.lit (.int .u64 x.2.1)))]) (fun x=>[(0,.box true [.d (.sl 1 (x.2.2.map dU))])]) (fun x=>x.1≤9∧x.2.1<128 ^ x.1∧(pNum x.1 x.2.2).map (fun y=>(x.2.1+y.1*128 ^ x.1,y.2))=some (u,r)) (fun x=>x.2.2.length) (0,0,b) ⟨by omega,by simp,by rw [h];simp⟩ ⟨[],[],?_⟩ (fun x hx=>?_)
 ·simp
 obtain⟨i,acc,t⟩:=x
 obtain⟨g1,g2,g3⟩:=hx
 simp only at g1 g2 g3
 cases t with
 | nil=>simp [pNum] at g3
 | cons c t =>
  simp
  refine regS_path [] ?_
  simp
  refine icall_T (TB _ _ _ _) (hcall_of_bcall (take_ok (c::t) 1 (by simp))) ?_
  refine⟨0,_,_,rfl,rfl,rfl,?_⟩
  simp
  have hgood:(i=0∨c≠0)∧(i<9∨c≤1):=by
   rcases Classical.em ((i=0∨c≠0)∧(i<9∨c≤1)) with h | h
   ·exact h
   ·rw [pNum,if_neg h] at g3;cases g3
  have hcl:=c.toNat_lt
  have hg1:(i:Int)=0∨¬ (c.toNat:Int)=0:=hgood.1.imp (by omega) (fun h h2=>h (by rw [← UInt8.toNat_inj];simpa using h2))
  have hg2:(i:Int)<9∨(c.toNat:Int)≤1:=hgood.2.imp (by omega) (fun h=>by rw [UInt8.le_iff_toNat_le] at h;have h:c.toNat≤1:=h;omega)
  have hi2:(7*(i:Int))=((7*i:Nat):Int):=by omega
  have e1:IntKind.i64.wrap (7*(i:Int))=7*(i:Int):=wrap64 (by omega)
  obtain⟨q,sm,hq,hsm,hsm2,e2,e3⟩:=num_arith i acc c g1 g2 hgood.2
  have hpow:128 ^ (i+1)=128 ^ i*128:=Nat.pow_succ ..
  rw [pNum,if_pos hgood] at g3
  have hlt8:(c.toNat:Int)<128↔c<128:=by rw [UInt8.lt_iff_toNat_lt];show _↔c.toNat<128;omega
  have hi1:IntKind.i64.wrap ((i:Int)+1)=((i+1:Nat):Int):=by rw [wrap64 (by omega)];omega
  refine⟨⟨rfl,rfl,rfl⟩,?_⟩
  have hend:((c.toNat:Int)<128→sm=u∧t=r)∧(128≤(c.toNat:Int)→i<9∧(pNum (i+1) t).map (fun y=>(sm+y.1*128 ^ (i+1),y.2))=some (u,r)):=by
   refine⟨fun h=>?_,fun h=>?_⟩
   ·rw [if_pos (hlt8.1 h)] at g3
    simp at g3
    have:c.toNat % 128=c.toNat:=by omega
    rw [this] at hq
    exact⟨by omega,g3.2⟩
   ·rw [if_neg (fun h2=>by have:=hlt8.2 h2;omega)] at g3
    refine⟨by omega,?_⟩
    rw [← g3,Option.map_map]
    congr 1
    funext y
    simp only [Function.comp,Prod.mk.injEq,and_true]
    rw [hsm,hq,hpow,Nat.add_mul,← Nat.mul_assoc,Nat.mul_comm 128 y.1,Nat.mul_assoc y.1,Nat.mul_assoc y.1,Nat.mul_comm (128 ^ i) 128]
    omega
  have hc3:((i:Int) == 0)=true∧(i:Int)<9∨((i:Int) == 0)=false∧¬ c.toNat=0∧(i:Int)<9∨((i:Int) == 0)=false∧¬ c.toNat=0∧¬ (i:Int)<9∧(c.toNat:Int)≤1:=by
   by_cases h0:(i:Int)=0
   ·exact .inl ⟨by simp [h0],by omega⟩
   ·have h1:¬ (c.toNat:Int)=0:=hg1.resolve_left h0
    by_cases h9':(i:Int)<9
    ·exact .inr (.inl ⟨by simpa using h0,by omega,h9'⟩)
    ·exact .inr (.inr ⟨by simpa using h0,by omega,h9',hg2.resolve_left h9'⟩)
  clear g3 hgood hg1 hg2
  rcases hc3 with ⟨b1,b2⟩ | ⟨b1,b2,b3⟩ | ⟨b1,b2,b3,b4⟩
  ·refine vc_path [.ret (.tup [])] ?_
   simp [dU,e1,e2,e3,b1,b2]
   refine⟨.want_t _,.tup (by simp),by omega,fun h=>?_,fun h=>?_⟩
   ·obtain⟨rfl,rfl⟩:=hend.1 h
    exact⟨LeD.refl _,LeD.refl _⟩
   ·obtain⟨k1,k2⟩:=hend.2 h
    refine⟨i+1,sm,t,⟨by omega,hsm2,by simpa using k2⟩,by simp,[],[],?_⟩
    simp [hi1]
  ·refine vc_path [.ret (.tup [])] ?_
   simp [dU,e1,e2,e3,b1,b2,b3]
   refine⟨.want_t _,.tup (by simp),by omega,fun h=>?_,fun h=>?_⟩
   ·obtain⟨rfl,rfl⟩:=hend.1 h
    exact⟨LeD.refl _,LeD.refl _⟩
   ·obtain⟨k1,k2⟩:=hend.2 h
    refine⟨i+1,sm,t,⟨by omega,hsm2,by simpa using k2⟩,by simp,[],[],?_⟩
    simp [hi1]
  ·refine vc_path [.ret (.tup [])] ?_
   simp [dU,e1,e2,e3,b1,b2,b3,b4]
   refine⟨.want_t _,.tup (by simp),by omega,fun h=>?_,fun h=>?_⟩
   ·obtain⟨rfl,rfl⟩:=hend.1 h
    exact⟨LeD.refl _,LeD.refl _⟩
   ·obtain⟨k1,k2⟩:=hend.2 h
    refine⟨i+1,sm,t,⟨by omega,hsm2,by simpa using k2⟩,by simp,[],[],?_⟩
    simp [hi1]
theorem number_no(b:List UInt8) (h:pNum 0 b=none):BCall Tryz.prog 153 [.sl 1 (b.map dU)] [] (.pan (tE 10)) (fun _=>True):=by
 refine bcall_of_vc h526 c153 (by simp [a153]) fun hr1 hr=>?_
 simp [a153]
 refine vc_loopK [0] (Nat×Nat×List UInt8) (fun x=>[(3,true,.d (dI x.1)),(2,true,.d (.lit (.int .u64 x.2.1)))]) (fun x=>[(0,.box true [.d (.sl 1 (x.2.2.map dU))])]) (fun x=>x.1≤9∧x.2.1<128 ^ x.1∧pNum x.1 x.2.2=none) (fun x=>x.2.2.length) (0,0,b) ⟨by omega,by simp,h⟩ ⟨[],[],?_⟩ (fun x hx=>?_)
 ·simp
 obtain⟨i,acc,t⟩:=x
 obtain⟨g1,g2,g3⟩:=hx
 simp only at g1 g2 g3
 cases t with
 | nil =>
  simp
  refine regS_path [] ?_
  simp
  refine icall_T (TB _ _ _ _) (hcall_of_bcall (take_no [] 1 (by simp))) ?_
  refine⟨0,_,_,rfl,rfl,rfl,fun cs' _ h1=>?_⟩
  simp
  exact⟨cs',leL_map _ _ _ _ _,h1⟩
 | cons c t =>
  simp
  refine regS_path [] ?_
  simp
  refine icall_T (TB _ _ _ _) (hcall_of_bcall (take_ok (c::t) 1 (by simp))) ?_
  refine⟨0,_,_,rfl,rfl,rfl,?_⟩
  simp
  have e1:IntKind.i64.wrap (7*(i:Int))=7*(i:Int):=wrap64 (by omega)
  refine⟨⟨rfl,rfl,rfl⟩,?_⟩
  by_cases hgood:(i=0∨c≠0)∧(i<9∨c≤1)
  ·obtain⟨q,sm,hq,hsm,hsm2,e2,e3⟩:=num_arith i acc c g1 g2 hgood.2
   rw [pNum,if_pos hgood] at g3
   have hlt8:(c.toNat:Int)<128↔c<128:=by rw [UInt8.lt_iff_toNat_lt];show _↔c.toNat<128;omega
   have hge:¬ (c.toNat:Int)<128:=fun h=>by rw [if_pos (hlt8.1 h)] at g3;cases g3
   rw [if_neg (fun h=>hge (hlt8.2 h))] at g3
   have g4:pNum (i+1) t=none:=by simpa using g3
   have hg1:(i:Int)=0∨¬ (c.toNat:Int)=0:=hgood.1.imp (by omega) (fun h h2=>h (by rw [← UInt8.toNat_inj];simpa using h2))
   have b3:(i:Int)<9:=by
    rcases hgood.2 with h | h
    ·omega
    ·rw [UInt8.le_iff_toNat_le] at h;have h:c.toNat≤1:=h;omega
   have hi1:IntKind.i64.wrap ((i:Int)+1)=((i+1:Nat):Int):=by rw [wrap64 (by omega)];omega
   have hge2:(128:Int)≤c.toNat:=by omega
   have hc3:((i:Int) == 0)=true∨((i:Int) == 0)=false∧¬ c.toNat=0:=by
    by_cases h0:(i:Int)=0
    ·exact .inl (by simp [h0])
    ·exact .inr ⟨by simpa using h0,by have:=hg1.resolve_left h0;omega⟩
   clear g3 hgood hg1 hge
   rcases hc3 with b1 | ⟨b1,b2⟩
   ·refine vc_path [.ret (.tup [])] ?_
    simp [dU,e1,e2,e3,b1,b3]
    refine⟨.want_t _,.tup (by simp),by omega,fun h=>by omega,fun _=>⟨i+1,sm,t,⟨by omega,hsm2,g4⟩,by simp,[],[],?_⟩⟩
    simp [hi1]
   ·refine vc_path [.ret (.tup [])] ?_
    simp [dU,e1,e2,e3,b1,b2,b3]
    refine⟨.want_t _,.tup (by simp),by omega,fun h=>by omega,fun _=>⟨i+1,sm,t,⟨by omega,hsm2,g4⟩,by simp,[],[],?_⟩⟩
    simp [hi1]
  ·have hc3:((i:Int) == 0)=false∧c.toNat=0∨((i:Int) == 0)=false∧¬ c.toNat=0∧¬ (i:Int)<9∧¬ (c.toNat:Int)≤1:=by
    by_cases h1:i=0∨c≠0
    ·have h2:¬ (i<9∨c≤1):=fun h=>hgood ⟨h1,h⟩
     have h3:¬ i<9:=fun h=>h2 (.inl h)
     have h4:¬ c.toNat≤1:=fun h=>h2 (.inr (by rw [UInt8.le_iff_toNat_le];exact h))
     exact .inr ⟨by simp;omega,by omega,by omega,by omega⟩
    ·have h2:¬ i=0:=fun h=>h1 (.inl h)
     have h3:c=0:=Classical.byContradiction fun h=>h1 (.inr h)
     exact .inl ⟨by simpa using h2,by simp [h3]⟩
   rcases hc3 with ⟨b1,b2⟩ | ⟨b1,b2,b3,b4⟩
   ·refine vc_path [.pan (tE 10)] ?_
    simp [dU,b1,b2]
    exact⟨.want_f _,tE_free 10,[.sl 1 (t.map dU)],leL_map _ _ _ 3 [.sl 1 (t.map dU)],by simp⟩
   ·refine vc_path [.pan (tE 10)] ?_
    simp [dU,b1,b2,b3,b4]
    exact⟨.want_f _,tE_free 10,[.sl 1 (t.map dU)],leL_map _ _ _ 3 [.sl 1 (t.map dU)],by simp⟩
theorem signed(u:Nat) (hu:u<18446744073709551616):PCall Tryz.prog 152 [.lit (.int .u64 u)] (.ret (dI (sgn u))):=by
 refine pcall_of_vc noC c152 (by simp [a152]) fun hr=>?_
 simp [a152]
 have hs:shiftV false IntKind.u64 (u:Int) 1=.int .u64 ((u / 2:Nat):Int):=by
  simp [shiftV,IntKind.bits]
  rw [Int.fdiv_eq_ediv_of_nonneg _ (by omega)]
 have he1:IntKind.i64.wrap ((u / 2:Nat):Int)=((u / 2:Nat):Int):=wrap64 (by omega)
 have hand:(u % 2 ^ IntKind.u64.bits&&&1 % 2 ^ IntKind.u64.bits)=u % 2:=by
  have e1:u % 2 ^ IntKind.u64.bits=u:=by simp [IntKind.bits];omega
  have e2:1 % 2 ^ IntKind.u64.bits=2 ^ 1-1:=by decide
  rw [e1,e2,Nat.and_two_pow_sub_one_eq_mod]
 have hx1:(((u / 2:Nat):Int) % 2 ^ IntKind.i64.bits).toNat=u / 2:=by simp [IntKind.bits];omega
 rw [hs,hand]
 simp only [he1]
 rcases Nat.mod_two_eq_zero_or_one u with hm | hm
 ·have hy:IntKind.i64.wrap (-IntKind.i64.wrap (IntKind.u64.wrap ((u % 2:Nat):Int)))=0:=by rw [hm];decide
  have hx2:((0:Int) % 2 ^ IntKind.i64.bits).toNat=0:=by decide
  have hsg:sgn u=((u / 2:Nat):Int):=by unfold sgn;rw [if_neg (by omega)]
  simp only [hy,hx1,hx2,Nat.xor_zero,he1,hsg]
  simp
 ·have hy:IntKind.i64.wrap (-IntKind.i64.wrap (IntKind.u64.wrap ((u % 2:Nat):Int)))=-1:=by rw [hm];decide
  have hx2:((-1:Int) % 2 ^ IntKind.i64.bits).toNat=18446744073709551615:=by decide
  have hsg:sgn u=-((u / 2:Nat):Int)-1:=by unfold sgn;rw [if_pos (by omega)]
  have hw:IntKind.i64.wrap ((18446744073709551615-u / 2:Nat):Int)=-((u / 2:Nat):Int)-1:=by simp [IntKind.wrap,IntKind.bits,IntKind.signed];omega
  simp only [hy,hx1,hx2,xor_ones (u / 2) (by omega),hw,hsg]
  simp
theorem pNum_len{b r:List UInt8}{u:Nat}(h:pNum 0 b=some (u,r)):r.length≤b.length:=by
 have:=(pNum_sound b 0 u r (by omega) h).1
 rw [this,List.length_append];omega
theorem pNum_lt{b r:List UInt8}{u:Nat}(h:pNum 0 b=some (u,r)):u<18446744073709551616:=by
 have:=(pNum_sound b 0 u r (by omega) h).2.2
 omega
theorem length_ok(b r:List UInt8) (u:Nat) (h:pNum 0 b=some (u,r)) (hu:u≤r.length):BCall Tryz.prog 154 [.sl 1 (b.map dU)] [] (.ret (dI u)) (fun c=>c=[.sl 1 (r.map dU)]):=by
 refine bcall_of_vc h526 c154 (by simp [a154]) fun hr1 hr=>?_
 have hlen:=(hr1 (.sl 1 (b.map dU)) (by simp)).sl.1
 simp at hlen
 simp [a154]
 refine regS_path [] ?_
 simp
 refine icall_T (TB _ _ _ _) (hcall_of_bcall (number_ok b r u h)) ?_
 refine⟨0,_,_,rfl,rfl,rfl,?_⟩
 simp
 have hrl:=pNum_len h
 have hw:IntKind.u64.wrap (r.length:Int)=r.length:=wrap_u64 (by omega) (by omega)
 have hw2:IntKind.i64.wrap (u:Int)=u:=wrap64 (by omega)
 have hle:(u:Int)≤r.length:=by omega
 refine vc_path [.ret (.tup [])] ?_
 simp [hw,hw2,hle]
 exact⟨.want_t _,.tup (by simp)⟩
theorem length_no1(b:List UInt8) (h:pNum 0 b=none):BCall Tryz.prog 154 [.sl 1 (b.map dU)] [] (.pan (tE 10)) (fun _=>True):=by
 refine bcall_of_vc h526 c154 (by simp [a154]) fun hr1 hr=>?_
 simp [a154]
 refine regS_path [] ?_
 simp
 refine icall_T (TB _ _ _ _) (hcall_of_bcall (number_no b h)) ?_
 refine⟨0,_,_,rfl,rfl,rfl,fun cs' _ h1=>?_⟩
 simp
 exact⟨cs',leL_map _ _ _ _ _,h1⟩
theorem length_no2(b r:List UInt8) (u:Nat) (h:pNum 0 b=some (u,r)) (hu:r.length<u):BCall Tryz.prog 154 [.sl 1 (b.map dU)] [] (.pan (tE 10)) (fun _=>True):=by
 refine bcall_of_vc h526 c154 (by simp [a154]) fun hr1 hr=>?_
 have hlen:=(hr1 (.sl 1 (b.map dU)) (by simp)).sl.1
 simp at hlen
 simp [a154]
 refine regS_path [] ?_
 simp
 refine icall_T (TB _ _ _ _) (hcall_of_bcall (number_ok b r u h)) ?_
 refine⟨0,_,_,rfl,rfl,rfl,?_⟩
 simp
 have hrl:=pNum_len h
 have hw:IntKind.u64.wrap (r.length:Int)=r.length:=wrap_u64 (by omega) (by omega)
 have hle:¬ (u:Int)≤r.length:=by omega
 refine vc_path [.pan (tE 10)] ?_
 simp [hw,hle]
 exact⟨.want_f _,tE_free 10,[.sl 1 (r.map dU)],leL_map _ _ _ 3 [.sl 1 (r.map dU)],by simp⟩
inductive C527:FuncId→List D→Out→Prop
 | want_t (x:D):C527 131 [x,dB true] (.ret (.tup []))
 | want_f (x:D):C527 131 [x,dB false] (.pan (tE 10))
 | signed (u:Nat) (hu:u<18446744073709551616):C527 152 [.lit (.int .u64 u)] (.ret (dI (sgn u)))
theorem h527:∀ f ds out,C527 f ds out→PCall Tryz.prog f ds out:=by
 intro f ds out h
 cases h with
 | want_t x=>exact want_t x
 | want_f x=>exact want_f x
 | signed u hu=>exact signed u hu
def ValOk (dp:Nat) (p:List UInt8→Option (Vl×List UInt8)):Prop :=
 (∀ b v r,b.length≤1099511627776→p b=some (v,r)→BCall Tryz.prog 130 [.sl 1 (b.map dU)] [dI dp] (.ret (dV v)) (fun c=>c=[.sl 1 (r.map dU)])∧r.length≤b.length) ∧
 (∀ b,b.length≤1099511627776→p b=none→BCall Tryz.prog 130 [.sl 1 (b.map dU)] [dI dp] (.pan (tE 10)) (fun _=>True))
theorem val1_ok(dp:Nat) (deep:Option (List UInt8→Option (Vl×List UInt8))) (hd:dp≤16) (hdeep:∀ p,deep=some p→dp<16∧ValOk (dp+1) p) (b r:List UInt8) (v:Vl) (hb:b.length≤1099511627776) (h:pV1 deep b=some (v,r)) :
  BCall Tryz.prog 130 [.sl 1 (b.map dU)] [dI dp] (.ret (dV v)) (fun c=>c=[.sl 1 (r.map dU)]):=by
 refine bcall_of_vc h527 c130 (by simp [a130]) fun hr1 hr=>?_
 simp [a130]
 cases b with
 | nil=>simp [pV1] at h
 | cons c t =>
  refine regS_path [] ?_
  simp
  refine icall_T (TB _ _ _ _) (hcall_of_bcall (take_ok (c::t) 1 (by simp))) ?_
  refine⟨0,_,_,rfl,rfl,rfl,?_⟩
  simp
  have hcl:=c.toNat_lt
  have hw:IntKind.i64.wrap (c.toNat:Int)=c.toNat:=wrap64 (by omega)
  have hcn:∀ k:UInt8,c=k↔c.toNat=k.toNat:=fun k=>UInt8.toNat_inj.symm
  simp [dU,hw]
  simp only [List.length_cons] at hb
  rw [pV1] at h
  by_cases hk1:c=1
  ·rw [if_pos hk1] at h
   cases hx:pNum 0 t with
   | none=>rw [hx] at h;cases h
   | some x =>
    obtain⟨u,r1⟩:=x
    rw [hx] at h
    simp at h
    obtain⟨rfl,rfl⟩:=h
    have hk:c.toNat=1:=(hcn 1).1 hk1
    have hul:=pNum_lt hx
    refine⟨fun _=>?_,fun h=>absurd (by omega) h⟩
    refine regS_path [.ret (dI (sgn u))] ?_
    simp
    refine icall_T (TB _ _ _ _) (hcall_of_bcall (number_ok t r1 u hx)) ?_
    refine⟨0,_,_,rfl,rfl,rfl,?_⟩
    simp [dV_eq]
    refine⟨.signed u hul,LeD.agg (.cons (leD_of_eq (by rw [hk];rfl)) (.cons (LeD.refl _) (.cons (LeD.refl _) (.cons (LeD.nil 4) .nil)))) (by simp)⟩
  rw [if_neg hk1] at h
  have hn1:¬ (c.toNat:Int)=1:=fun h=>hk1 ((hcn 1).2 (by show c.toNat=1;omega))
  by_cases hk2:c=2
  ·rw [if_pos hk2] at h
   cases hx:pNum 0 t with
   | none=>rw [hx] at h;cases h
   | some x =>
    obtain⟨u,r1⟩:=x
    rw [hx,Option.bind_some] at h
    simp only at h
    split at h
    case isFalse=>cases h
    case isTrue hu =>
    simp at h
    obtain⟨rfl,rfl⟩:=h
    have hk:c.toNat=2:=(hcn 2).1 hk2
    refine⟨fun h=>absurd h hn1,fun _=>⟨fun _=>?_,fun h=>absurd (by omega) h⟩⟩
    refine regS_path [] ?_
    simp
    refine icall_T (TB _ _ _ _) (hcall_of_bcall (length_ok t r1 u hx hu)) ?_
    refine⟨0,_,_,rfl,rfl,rfl,?_⟩
    simp
    refine icall_T (TB _ _ _ _) (hcall_of_bcall (take_ok r1 u hu)) ?_
    refine⟨0,_,_,rfl,rfl,rfl,?_⟩
    simp [dV_eq]
    refine⟨fun e he=>?_,LeD.agg (.cons (leD_of_eq (by rw [hk];rfl)) (.cons (LeD.refl _) (.cons (leD_of_eq ?_) (.cons (LeD.nil 4) .nil)))) (by simp)⟩
    ·rw [← List.map_take] at he
     obtain⟨y,_,rfl⟩:=List.mem_map.1 he
     rfl
    ·rw [← List.map_take,bytesOf_map];rfl
  rw [if_neg hk2] at h
  have hn2:¬ (c.toNat:Int)=2:=fun h=>hk2 ((hcn 2).2 (by show c.toNat=2;omega))
  by_cases hk3:c=3
  case neg=>rw [if_neg hk3] at h;cases h
  rw [if_pos hk3] at h
  have hk:c.toNat=3:=(hcn 3).1 hk3
  cases hdp:deep with
  | none=>rw [hdp] at h;cases h
  | some p =>
   obtain⟨hlt,hp⟩:=hdeep p hdp
   rw [hdp,Option.bind_some] at h
   cases hx:pNum 0 t with
   | none=>rw [hx] at h;cases h
   | some x =>
    obtain⟨u,r1⟩:=x
    rw [hx,Option.bind_some] at h
    simp only at h
    split at h
    case isFalse=>cases h
    case isTrue hu =>
    cases hy:pVs p u r1 with
    | none=>rw [hy] at h;cases h
    | some y =>
     obtain⟨vs,r2⟩:=y
     rw [hy] at h
     simp at h
     obtain⟨rfl,rfl⟩:=h
     have hr1l:=pNum_len hx
     have hlt':(dp:Int)<16:=by omega
     refine⟨fun h=>absurd h hn1,fun _=>⟨fun h=>absurd h hn2,fun _=>⟨fun _=>?_,fun h=>absurd (by omega) h⟩⟩⟩
     refine vc_path [.ret (.tup [])] ?_
     simp [hlt']
     refine⟨.want_t _,.tup (by simp),regS_path [] ?_⟩
     simp
     refine icall_T (TB _ _ _ _) (hcall_of_bcall (length_ok t r1 u hx hu)) ?_
     refine⟨0,_,_,rfl,rfl,rfl,?_⟩
     simp
     have hkI:(c.toNat:Int)=3:=by omega
     refine vc_loopK [0,1,4,36] (Nat×List Vl×List UInt8) (fun x=>[(37,true,.d (dI x.1))]) (fun x=>[(0,.box true [.d (.sl 1 (x.2.2.map dU))]),(1,.box true [.d (dI 3),.d (dI 0),.d (dZ []),.own 2 4 (x.2.1.map dV)]),(2,.row)])
      (fun x=>x.1≤u∧x.2.1.length=x.1∧x.2.2.length≤r1.length∧(pVs p (u-x.1) x.2.2).map (fun y=>(x.2.1++y.1,y.2))=some (vs,r2)) (fun x=>u-x.1) (0,[],r1) ⟨by omega,rfl,Nat.le_refl _,by rw [Nat.sub_zero,hy];rfl⟩ ⟨[],[(2,4)],?_⟩ (fun x hx=>?_)
     ·simp [hkI]
      exact LeD.refl _
     obtain⟨i,es,rest⟩:=x
     obtain⟨g1,g2,g3,g4⟩:=hx
     simp only at g1 g2 g3 g4
     simp
     refine⟨fun hlt=>?_,fun hge=>?_⟩
     ·have hwd:IntKind.i64.wrap ((dp:Int)+1)=((dp+1:Nat):Int):=by rw [wrap64 (by omega)];omega
      have hwi:IntKind.i64.wrap ((i:Int)+1)=((i+1:Nat):Int):=by rw [wrap64 (by omega)];omega
      rw [show u-i=(u-(i+1))+1 by omega,pVs] at g4
      cases hq:p rest with
      | none=>rw [hq] at g4;cases g4
      | some z =>
       obtain⟨w,rest2⟩:=z
       rw [hq,Option.bind_some] at g4
       obtain⟨hB,hlr⟩:=hp.1 rest w rest2 (by omega) hq
       refine regI_path [] [] [] ?_
       simp [hwd]
       rw [show ((dp+1:Nat):Int)=(dp:Int)+1 by omega] at hB
       refine⟨rfl,icallD_T (TB _ _ _ _) (hcall_of_bcall hB) ?_⟩
       refine⟨0,_,_,rfl,rfl,rfl,?_⟩
       simp
       refine⟨rfl,⟨by omega,by omega⟩,i+1,es++[w],rest2,⟨by omega,by simp [g2],by omega,?_⟩,by omega,[(2,4)],[],?_⟩
       ·cases hz:pVs p (u-(i+1)) rest2 with
        | none=>rw [hz] at g4;cases g4
        | some z =>
         rw [hz] at g4
         simp at g4
         exact⟨z.1,by rw [← g4.2],by simpa using g4.1⟩
       ·simp [hwi]
     ·have hiu:u-i=0:=by omega
      rw [hiu,pVs] at g4
      simp at g4
      obtain⟨rfl,rfl⟩:=g4
      simp [dV_eq]
      trace_state
      done
theorem val1_no(dp:Nat) (deep:Option (List UInt8→Option (Vl×List UInt8))) (hd:dp≤16) (hdeep:∀ p,deep=some p→dp<16∧ValOk (dp+1) p) (hnone:deep=none→dp=16) (b:List UInt8) (hb:b.length≤1099511627776) (h:pV1 deep b=none) :
  BCall Tryz.prog 130 [.sl 1 (b.map dU)] [dI dp] (.pan (tE 10)) (fun _=>True):=by
 refine bcall_of_vc h527 c130 (by simp [a130]) fun hr1 hr=>?_
 simp [a130]
 cases b with
 | nil =>
  refine regS_path [] ?_
  simp
  refine icall_T (TB _ _ _ _) (hcall_of_bcall (take_no [] 1 (by simp))) ?_
  refine⟨0,_,_,rfl,rfl,rfl,fun cs' _ h1=>?_⟩
  simp
  exact⟨cs',leL_map _ _ _ _ _,h1⟩
 | cons c t =>
  refine regS_path [] ?_
  simp
  refine icall_T (TB _ _ _ _) (hcall_of_bcall (take_ok (c::t) 1 (by simp))) ?_
  refine⟨0,_,_,rfl,rfl,rfl,?_⟩
  simp
  have hcl:=c.toNat_lt
  have hw:IntKind.i64.wrap (c.toNat:Int)=c.toNat:=wrap64 (by omega)
  have hcn:∀ k:UInt8,c=k↔c.toNat=k.toNat:=fun k=>UInt8.toNat_inj.symm
  simp [dU,hw]
  simp only [List.length_cons] at hb
  rw [pV1] at h
  by_cases hk1:c=1
  ·rw [if_pos hk1] at h
   have hx:pNum 0 t=none:=by simpa using h
   have hk:c.toNat=1:=(hcn 1).1 hk1
   refine⟨fun _=>?_,fun h=>absurd (by omega) h⟩
   refine regS_path [] ?_
   simp
   refine icall_T (TB _ _ _ _) (hcall_of_bcall (number_no t hx)) ?_
   refine⟨0,_,_,rfl,rfl,rfl,fun cs' _ h1=>?_⟩
   simp
   exact⟨cs',leL_map _ _ _ _ _,h1⟩
  rw [if_neg hk1] at h
  have hn1:¬ (c.toNat:Int)=1:=fun h=>hk1 ((hcn 1).2 (by show c.toNat=1;omega))
  by_cases hk2:c=2
  ·rw [if_pos hk2] at h
   have hk:c.toNat=2:=(hcn 2).1 hk2
   refine⟨fun h=>absurd h hn1,fun _=>⟨fun _=>?_,fun h=>absurd (by omega) h⟩⟩
   refine regS_path [] ?_
   simp
   cases hx:pNum 0 t with
   | none =>
    refine icall_T (TB _ _ _ _) (hcall_of_bcall (length_no1 t hx)) ?_
    refine⟨0,_,_,rfl,rfl,rfl,fun cs' _ h1=>?_⟩
    simp
    exact⟨cs',leL_map _ _ _ _ _,h1⟩
   | some x =>
    obtain⟨u,r1⟩:=x
    rw [hx,Option.bind_some] at h
    simp only at h
    have hu:r1.length<u:=by
     rcases Nat.lt_or_ge r1.length u with h' | h'
     ·exact h'
     ·rw [if_pos h'] at h;cases h
    refine icall_T (TB _ _ _ _) (hcall_of_bcall (length_no2 t r1 u hx hu)) ?_
    refine⟨0,_,_,rfl,rfl,rfl,fun cs' _ h1=>?_⟩
    simp
    exact⟨cs',leL_map _ _ _ _ _,h1⟩
  rw [if_neg hk2] at h
  have hn2:¬ (c.toNat:Int)=2:=fun h=>hk2 ((hcn 2).2 (by show c.toNat=2;omega))
  by_cases hk3:c=3
  case neg =>
   have hn3:¬ (c.toNat:Int)=3:=fun h=>hk3 ((hcn 3).2 (by show c.toNat=3;omega))
   refine⟨fun h=>absurd h hn1,fun _=>⟨fun h=>absurd h hn2,fun _=>⟨fun h=>absurd h hn3,fun _=>?_⟩⟩⟩
   refine vc_path [.pan (tE 10)] ?_
   simp
   exact⟨.want_f _,tE_free 10,[.sl 1 (t.map dU)],leL_map _ _ _ 3 [.sl 1 (t.map dU)],by simp⟩
  rw [if_pos hk3] at h
  have hk:c.toNat=3:=(hcn 3).1 hk3
  refine⟨fun h=>absurd h hn1,fun _=>⟨fun h=>absurd h hn2,fun _=>⟨fun _=>?_,fun h=>absurd (by omega) h⟩⟩⟩
  cases hdp:deep with
  | none =>
   have hlt':¬ (dp:Int)<16:=by have:=hnone hdp;omega
   refine vc_path [.pan (tE 10)] ?_
   simp [hlt']
   exact⟨.want_f _,tE_free 10,[.sl 1 (t.map dU)],leL_map _ _ _ 3 [.sl 1 (t.map dU)],by simp⟩
  | some p =>
   obtain⟨hlt,hp⟩:=hdeep p hdp
   have hlt':(dp:Int)<16:=by omega
   rw [hdp,Option.bind_some] at h
   refine vc_path [.ret (.tup [])] ?_
   simp [hlt']
   refine⟨.want_t _,.tup (by simp),regS_path [] ?_⟩
   simp
   cases hx:pNum 0 t with
   | none =>
    refine icall_T (TB _ _ _ _) (hcall_of_bcall (length_no1 t hx)) ?_
    refine⟨0,_,_,rfl,rfl,rfl,fun cs' _ h1=>?_⟩
    simp
    exact⟨cs',leL_map _ _ _ _ _,h1⟩
   | some x =>
    obtain⟨u,r1⟩:=x
    rw [hx,Option.bind_some] at h
    simp only at h
    rcases Nat.lt_or_ge r1.length u with hu | hu
    ·refine icall_T (TB _ _ _ _) (hcall_of_bcall (length_no2 t r1 u hx hu)) ?_
     refine⟨0,_,_,rfl,rfl,rfl,fun cs' _ h1=>?_⟩
     simp
     exact⟨cs',leL_map _ _ _ _ _,h1⟩
    rw [if_pos hu] at h
    have hy:pVs p u r1=none:=by simpa using h
    have hr1l:=pNum_len hx
    refine icall_T (TB _ _ _ _) (hcall_of_bcall (length_ok t r1 u hx hu)) ?_
    refine⟨0,_,_,rfl,rfl,rfl,?_⟩
    simp
    have hkI:(c.toNat:Int)=3:=by omega
    refine vc_loopK [0,1,4,36] (Nat×List Vl×List UInt8) (fun x=>[(37,true,.d (dI x.1))]) (fun x=>[(0,.box true [.d (.sl 1 (x.2.2.map dU))]),(1,.box true [.d (dI 3),.d (dI 0),.d (dZ []),.own 2 4 (x.2.1.map dV)]),(2,.row)])
     (fun x=>x.1≤u∧x.2.1.length=x.1∧x.2.2.length≤r1.length∧pVs p (u-x.1) x.2.2=none) (fun x=>u-x.1) (0,[],r1) ⟨by omega,rfl,Nat.le_refl _,by rw [Nat.sub_zero,hy]⟩ ⟨[],[(2,4)],?_⟩ (fun x hx=>?_)
    ·simp [hkI]
     exact LeD.refl _
    obtain⟨i,es,rest⟩:=x
    obtain⟨g1,g2,g3,g4⟩:=hx
    simp only at g1 g2 g3 g4
    simp
    refine⟨fun hlt=>?_,fun hge=>?_⟩
    ·have hwd:IntKind.i64.wrap ((dp:Int)+1)=((dp+1:Nat):Int):=by rw [wrap64 (by omega)];omega
     have hwi:IntKind.i64.wrap ((i:Int)+1)=((i+1:Nat):Int):=by rw [wrap64 (by omega)];omega
     rw [show u-i=(u-(i+1))+1 by omega,pVs] at g4
     refine regI_path [] [] [] ?_
     simp [hwd]
     cases hq:p rest with
     | none =>
      have hB:=hp.2 rest (by omega) hq
      rw [show ((dp+1:Nat):Int)=(dp:Int)+1 by omega] at hB
      refine⟨rfl,icallD_T (TB _ _ _ _) (hcall_of_bcall hB) ?_⟩
      refine⟨0,_,_,rfl,rfl,rfl,fun cs' _ h1=>?_⟩
      simp
      exact⟨cs',leL_map _ _ _ _ _,h1⟩
     | some z =>
      obtain⟨w,rest2⟩:=z
      rw [hq,Option.bind_some] at g4
      obtain⟨hB,hlr⟩:=hp.1 rest w rest2 (by omega) hq
      rw [show ((dp+1:Nat):Int)=(dp:Int)+1 by omega] at hB
      refine⟨rfl,icallD_T (TB _ _ _ _) (hcall_of_bcall hB) ?_⟩
      refine⟨0,_,_,rfl,rfl,rfl,?_⟩
      simp
      refine⟨rfl,⟨by omega,by omega⟩,i+1,es++[w],rest2,⟨by omega,by simp [g2],by omega,by simpa using g4⟩,by omega,[(2,4)],[],?_⟩
      simp [hwi]
    ·have hiu:u-i=0:=by omega
     rw [hiu,pVs] at g4
     cases g4
theorem pV1_len{deep:Option (List UInt8→Option (Vl×List UInt8))}{d:Nat}{b r:List UInt8}{v:Vl}(h:pV d b=some (v,r)):r.length≤b.length:=by
 have:=(pV_sound d b v r h).1
 rw [this,List.length_append];omega
theorem valOk:∀ d:Nat,d≤16→ValOk (16-d) (pV d)
 | 0,_=>⟨fun b v r hb h=>⟨val1_ok 16 none (by omega) (fun p hp=>by cases hp) b r v hb h,pV1_len (deep:=none) h⟩,fun b hb h=>val1_no 16 none (by omega) (fun p hp=>by cases hp) (fun _=>rfl) b hb h⟩
 | d+1,hd=>by
  have ih:=valOk d (by omega)
  have hdeep:∀ p,some (pV d)=some p→16-(d+1)<16∧ValOk (16-(d+1)+1) p:=fun p hp=>by
   injection hp with hp;subst hp
   exact⟨by omega,by rw [show 16-(d+1)+1=16-d by omega];exact ih⟩
  exact⟨fun b v r hb h=>⟨val1_ok (16-(d+1)) (some (pV d)) (by omega) hdeep b r v hb h,pV1_len (deep:=none) h⟩,fun b hb h=>val1_no (16-(d+1)) (some (pV d)) (by omega) hdeep (fun h=>by cases h) b hb h⟩
def zV:Vl:=.mk 0 0 [] []
def decL (b:List UInt8):Vl:=(decV b).getD zV
def decE (b:List UInt8):Int:=if (decV b).isSome then 0 else 10
theorem leZV:LeD (.agg [dI 0,dI 0,.lit (.string ⟨#[]⟩),.nil 4]) (dV zV):=by
 rw [zV,dV_eq]
 exact LeD.agg (.cons (LeD.refl _) (.cons (LeD.refl _) (.cons (LeD.refl _) (.cons (LeD.nil 4) .nil)))) (by simp)
theorem decode(b:List UInt8) (hb:b.length≤1099511627776):PCall Tryz.prog 91 [.sl 1 (b.map dU)] (.ret (.tup [dV (decL b),dI (decE b)])):=by
 refine pcall_of_vc h527 c91 (by simp [a91]) fun hr=>?_
 simp [a91]
 refine regS_path [] ?_
 simp
 refine regS_path [] ?_
 simp
 have hv:=valOk 16 (by omega)
 rw [Nat.sub_self] at hv
 cases hp:pV 16 b with
 | none =>
  have e1:decV b=none:=by unfold decV;rw [hp]
  have e2:decL b=zV:=by unfold decL;rw [e1];rfl
  have e3:decE b=10:=by unfold decE;rw [e1];rfl
  rw [e2,e3]
  refine icall_T (TB _ _ _ _) (hcall_of_bcall (hv.2 b hb hp)) ?_
  refine⟨2,_,_,rfl,rfl,rfl,fun cs' _ h1=>?_⟩
  simp
  refine leave_fn (TR Tryz.prog a129) (dcall_of_vcR c129) ?_
  simp [a129,tE]
  exact⟨rfl,leZV⟩
 | some x =>
  obtain⟨v,r⟩:=x
  refine icall_T (TB _ _ _ _) (hcall_of_bcall (hv.1 b v r hb hp).1) ?_
  refine⟨2,_,_,rfl,rfl,rfl,?_⟩
  simp
  cases r with
  | nil =>
   have e1:decV b=some v:=by unfold decV;rw [hp]
   have e2:decL b=v:=by unfold decL;rw [e1];rfl
   have e3:decE b=0:=by unfold decE;rw [e1];rfl
   rw [e2,e3]
   refine vc_path [.ret (.tup [])] ?_
   simp
   refine⟨.want_t _,.tup (by simp),?_⟩
   refine leave_fn (TR Tryz.prog a129) (dcall_of_vcR c129) ?_
   simp [a129,tE]
   exact leD_of_eq (dV_agg v).symm
  | cons c r =>
   have e1:decV b=none:=by unfold decV;rw [hp]
   have e2:decL b=zV:=by unfold decL;rw [e1];rfl
   have e3:decE b=10:=by unfold decE;rw [e1];rfl
   rw [e2,e3]
   refine vc_path [.pan (tE 10)] ?_
   simp
   refine⟨.want_f _,tE_free 10,?_⟩
   refine leave_fn (TR Tryz.prog a129) (dcall_of_vcR c129) ?_
   simp [a129,tE]
   exact⟨rfl,leZV⟩
abbrev rB (B:List UInt8) (a:Nat) (bad:Bool):List D:=[.sl 1 (B.map dU),dI a,dB bad]
theorem drop_get{B t:List UInt8}{a:Nat}{c:UInt8}(h:B.drop a=c::t):∃ hl:a<B.length,B[a]=c∧B.drop (a+1)=t:=by
 have hl:a<B.length:=by
  rcases Nat.lt_or_ge a B.length with h' | h'
  ·exact h'
  ·rw [List.drop_eq_nil_of_le h'] at h;cases h
 rw [List.drop_eq_getElem_cons hl] at h
 injection h with h1 h2
 exact⟨hl,h1,h2⟩
theorem rNext_ok(B t:List UInt8) (a:Nat) (c:UInt8) (h:B.drop a=c::t):BCall Tryz.prog 155 (rB B a false) [] (.ret (dU c)) (fun x=>x=rB B (a+1) false):=by
 refine bcall_of_vc noC c155 (by simp [a155]) fun hr1 hr=>?_
 have hlen:=(hr1 (.sl 1 (B.map dU)) (by simp)).sl.1
 simp at hlen
 obtain⟨hl,he,hd⟩:=drop_get h
 have hw1:IntKind.i64.wrap ((a:Int)+1)=(a:Int)+1:=wrap64 (by omega)
 have hw2:IntKind.i64.wrap (a:Int)=(a:Int):=wrap64 (by omega)
 have hl2:(a:Int)<B.length:=by omega
 have hge:¬ (B.length:Int)≤(a:Int):=by omega
 simp [a155,hge,hw1,hw2,hl,hl2,he]
 exact⟨rfl,⟨rfl,rfl,rfl⟩,rfl⟩
theorem rNext_end(B:List UInt8) (a:Nat) (h:B.drop a=[]) (ha:a≤B.length):BCall Tryz.prog 155 (rB B a false) [] (.ret (dU 0)) (fun x=>x=rB B a true):=by
 refine bcall_of_vc noC c155 (by simp [a155]) fun hr1 hr=>?_
 have hge:(B.length:Int)≤(a:Int):=by have:=List.drop_eq_nil_iff.1 h;omega
 simp [a155,hge]
 exact⟨rfl,LeD.refl _⟩
theorem rnum_arith(i acc:Nat) (c:UInt8) (g1:i≤9) (g2:acc<128 ^ i) (hgood2:i<9∨c≤1):∃ q sm:Nat,q=c.toNat % 128*128 ^ i∧sm=acc+q∧sm<128 ^ (i+1) ∧
  shiftV true IntKind.u64 (IntKind.u64.wrap ((c.toNat:Int).tmod 128)) (7*(i:Int))=.int .u64 (q:Int) ∧
  IntKind.u64.wrap ((acc:Int)+(q:Int))=(sm:Int):=by
 obtain⟨q,sm,hq,hsm,hsm2,e2,e3⟩:=num_arith i acc c g1 g2 hgood2
 have hcl:=c.toNat_lt
 have h1:IntKind.u8.wrap ((c.toNat % 128:Nat):Int)=((c.toNat % 128:Nat):Int):=by simp [IntKind.wrap,IntKind.bits,IntKind.signed];omega
 rw [and127 _ hcl,h1] at e2
 have h9:(128:Nat) ^ 9=9223372036854775808:=by decide
 have hp128:128 ^ i≤128 ^ 9:=Nat.pow_le_pow_right (by omega) g1
 have hprod:q≤9223372036854775808:=by
  rcases hgood2 with h | h
  ·have h8:128 ^ i*128≤9223372036854775808:=by
    rw [← Nat.pow_succ,← h9];exact Nat.pow_le_pow_right (by omega) (by omega)
   have h2:c.toNat % 128*128 ^ i≤128*128 ^ i:=Nat.mul_le_mul_right _ (by omega)
   rw [Nat.mul_comm 128] at h2;omega
  ·rw [UInt8.le_iff_toNat_le] at h
   have h:c.toNat≤1:=h
   have h2:c.toNat % 128*128 ^ i≤1*128 ^ i:=Nat.mul_le_mul_right _ (by omega)
   omega
 have htm:(c.toNat:Int).tmod 128=((c.toNat % 128:Nat):Int):=by rw [Int.tmod_eq_emod_of_nonneg (by omega)];omega
 rw [← htm] at e2
 exact⟨q,sm,hq,hsm,hsm2,e2,by rw [hsm,wrap_u64 (by omega) (by omega)];omega⟩
theorem rNumber_ok(B r:List UInt8) (a u:Nat) (ha:a≤B.length) (h:pNum 0 (B.drop a)=some (u,r)):BCall Tryz.prog 156 (rB B a false) [] (.ret (.lit (.int .u64 u))) (fun x=>∃ a',a'≤B.length∧B.drop a'=r∧x=rB B a' false):=by
 refine bcall_of_vc noC c156 (by simp [a156]) fun hr1 hr=>?_
 have hlen:=(hr1 (.sl 1 (B.map dU)) (by simp)).sl.1
 simp at hlen
 simp [a156]
 refine vc_loopK [0] (Nat×Nat×Nat) (fun x=>[(4,true,.d (dI x.1)),(3,true,.d (.lit (.int .u64 x.2.1)))]) (fun x=>[(0,.box true [.d (.sl 1 (B.map dU)),.d (dI x.2.2),.d (dB false)])]) (fun x=>x.1≤9∧x.2.1<128 ^ x.1∧x.2.2≤B.length∧(pNum x.1 (B.drop x.2.2)).map (fun y=>(x.2.1+y.1*128 ^ x.1,y.2))=some (u,r)) (fun x=>B.length-x.2.2) (0,0,a) ⟨by omega,by simp,ha,by rw [h];simp⟩ ⟨[],[],?_⟩ (fun x hx=>?_)
 ·simp
 obtain⟨i,acc,p⟩:=x
 obtain⟨g1,g2,g4,g3⟩:=hx
 simp only at g1 g2 g3 g4
 simp
 cases hdr:B.drop p with
 | nil=>rw [hdr] at g3;simp [pNum] at g3
 | cons c t =>
  rw [hdr] at g3
  obtain⟨hpl,_,hdt⟩:=drop_get hdr
  refine regS_path [] ?_
  simp
  refine icall_T (TB _ _ _ _) (hcall_of_bcall (rNext_ok B t p c hdr)) ?_
  refine⟨0,_,_,rfl,rfl,rfl,?_⟩
  simp [dU]
  have hgood:(i=0∨c≠0)∧(i<9∨c≤1):=by
   rcases Classical.em ((i=0∨c≠0)∧(i<9∨c≤1)) with h | h
   ·exact h
   ·rw [pNum,if_neg h] at g3;cases g3
  have hcl:=c.toNat_lt
  have e1:IntKind.i64.wrap (7*(i:Int))=7*(i:Int):=wrap64 (by omega)
  obtain⟨q,sm,hq,hsm,hsm2,e2,e3⟩:=rnum_arith i acc c g1 g2 hgood.2
  have hpow:128 ^ (i+1)=128 ^ i*128:=Nat.pow_succ ..
  rw [pNum,if_pos hgood] at g3
  have hlt8:(c.toNat:Int)<128↔c<128:=by rw [UInt8.lt_iff_toNat_lt];show _↔c.toNat<128;omega
  have hi1:IntKind.i64.wrap ((i:Int)+1)=((i+1:Nat):Int):=by rw [wrap64 (by omega)];omega
  have hend:((c.toNat:Int)<128→sm=u∧t=r)∧(128≤(c.toNat:Int)→i<9∧(pNum (i+1) t).map (fun y=>(sm+y.1*128 ^ (i+1),y.2))=some (u,r)):=by
   refine⟨fun h=>?_,fun h=>?_⟩
   ·rw [if_pos (hlt8.1 h)] at g3
    simp at g3
    have:c.toNat % 128=c.toNat:=by omega
    rw [this] at hq
    exact⟨by omega,g3.2⟩
   ·rw [if_neg (fun h2=>by have:=hlt8.2 h2;omega)] at g3
    refine⟨?_,?_⟩
    ·rcases hgood.2 with h3 | h3
     ·exact h3
     ·rw [UInt8.le_iff_toNat_le] at h3;have h3:c.toNat≤1:=h3;omega
    rw [← g3,Option.map_map]
    congr 1
    funext y
    simp only [Function.comp,Prod.mk.injEq,and_true]
    rw [hsm,hq,hpow,Nat.add_mul,← Nat.mul_assoc,Nat.mul_comm 128 y.1,Nat.mul_assoc y.1,Nat.mul_assoc y.1,Nat.mul_comm (128 ^ i) 128]
    omega
  have hc3:((i:Int) == 9)=false∧¬ 0<i∨((i:Int) == 9)=false∧0<i∧¬ c.toNat=0∨((i:Int) == 9)=true∧¬ (1:Int)<(c.toNat:Int)∧0<i∧¬ c.toNat=0:=by
   have hg1:i=0∨¬ c.toNat=0:=hgood.1.imp id (fun h h2=>h (by rw [← UInt8.toNat_inj];simpa using h2))
   have hg2:i<9∨c.toNat≤1:=hgood.2.imp id (fun h=>by rw [UInt8.le_iff_toNat_le] at h;exact h)
   by_cases h0:i=0
   ·exact .inl ⟨by simp;omega,by omega⟩
   ·have h1:=hg1.resolve_left h0
    by_cases h9':i<9
    ·exact .inr (.inl ⟨by simp;omega,by omega,h1⟩)
    ·exact .inr (.inr ⟨by simp;omega,by have:=hg2.resolve_left h9';omega,by omega,h1⟩)
  clear g3 hgood
  rcases hc3 with ⟨b1,b2⟩ | ⟨b1,b2,b3⟩ | ⟨b1,b2,b3,b4⟩
  ·refine vc_path [] ?_
   simp [e1,e2,e3,b1,b2]
   rw [show ((p:Int)+1)=((p+1:Nat):Int) by omega]
   refine⟨by omega,fun h=>?_,fun h=>?_⟩
   ·obtain⟨rfl,rfl⟩:=hend.1 h
    exact⟨LeD.refl _,_,⟨p+1,by omega,hdt,rfl⟩,leL_map _ _ _ 3 (rB B (p+1) false),by simp⟩
   ·obtain⟨k1,k2⟩:=hend.2 h
    refine⟨i+1,sm,p+1,⟨by omega,hsm2,by omega,by rw [hdt];simpa using k2⟩,by omega,[],[],?_⟩
    simp [hi1]
  ·refine vc_path [] ?_
   simp [e1,e2,e3,b1,b2,b3]
   rw [show ((p:Int)+1)=((p+1:Nat):Int) by omega]
   refine⟨by omega,fun h=>?_,fun h=>?_⟩
   ·obtain⟨rfl,rfl⟩:=hend.1 h
    exact⟨LeD.refl _,_,⟨p+1,by omega,hdt,rfl⟩,leL_map _ _ _ 3 (rB B (p+1) false),by simp⟩
   ·obtain⟨k1,k2⟩:=hend.2 h
    refine⟨i+1,sm,p+1,⟨by omega,hsm2,by omega,by rw [hdt];simpa using k2⟩,by omega,[],[],?_⟩
    simp [hi1]
  ·refine vc_path [] ?_
   simp [e1,e2,e3,b1,b2,b3,b4]
   rw [show ((p:Int)+1)=((p+1:Nat):Int) by omega]
   refine⟨by omega,fun h=>?_,fun h=>?_⟩
   ·obtain⟨rfl,rfl⟩:=hend.1 h
    exact⟨LeD.refl _,_,⟨p+1,by omega,hdt,rfl⟩,leL_map _ _ _ 3 (rB B (p+1) false),by simp⟩
   ·obtain⟨k1,k2⟩:=hend.2 h
    refine⟨i+1,sm,p+1,⟨by omega,hsm2,by omega,by rw [hdt];simpa using k2⟩,by omega,[],[],?_⟩
    simp [hi1]
theorem rNumber_no(B:List UInt8) (a:Nat) (ha:a≤B.length) (h:pNum 0 (B.drop a)=none):BCall Tryz.prog 156 (rB B a false) [] (.ret (.lit (.int .u64 0))) (fun x=>∃ a',a'≤B.length∧x=rB B a' true):=by
 refine bcall_of_vc noC c156 (by simp [a156]) fun hr1 hr=>?_
 have hlen:=(hr1 (.sl 1 (B.map dU)) (by simp)).sl.1
 simp at hlen
 simp [a156]
 refine vc_loopK [0] (Nat×Nat×Nat) (fun x=>[(4,true,.d (dI x.1)),(3,true,.d (.lit (.int .u64 x.2.1)))]) (fun x=>[(0,.box true [.d (.sl 1 (B.map dU)),.d (dI x.2.2),.d (dB false)])]) (fun x=>x.1≤9∧x.2.1<128 ^ x.1∧x.2.2≤B.length∧pNum x.1 (B.drop x.2.2)=none) (fun x=>B.length-x.2.2) (0,0,a) ⟨by omega,by simp,ha,h⟩ ⟨[],[],?_⟩ (fun x hx=>?_)
 ·simp
 obtain⟨i,acc,p⟩:=x
 obtain⟨g1,g2,g4,g3⟩:=hx
 simp only at g1 g2 g3 g4
 simp
 cases hdr:B.drop p with
 | nil =>
  refine regS_path [] ?_
  simp
  refine icall_T (TB _ _ _ _) (hcall_of_bcall (rNext_end B p hdr g4)) ?_
  refine⟨0,_,_,rfl,rfl,rfl,?_⟩
  simp [dU]
  by_cases h0:i=0
  ·subst h0
   have hacc:acc=0:=by simpa using g2
   subst hacc
   have w1:IntKind.i64.wrap 0=0:=by decide
   have w2:IntKind.u64.wrap 0=0:=by decide
   have hsh:shiftV true IntKind.u64 0 0=.int .u64 0:=by simp [shiftV,w2]
   refine vc_path [] ?_
   simp [w1,w2,hsh]
   exact⟨_,⟨p,g4,rfl⟩,leL_map _ _ _ 3 (rB B p true),by simp⟩
  ·have b1:0<i:=by omega
   refine vc_path [] ?_
   by_cases h9:i=9
   ·have b2:((i:Int) == 9)=true:=by simp;omega
    simp [b1,b2]
    exact⟨_,⟨p,g4,rfl⟩,leL_map _ _ _ 3 (rB B p true),by simp⟩
   ·have b2:((i:Int) == 9)=false:=by simp;omega
    simp [b1,b2]
    exact⟨_,⟨p,g4,rfl⟩,leL_map _ _ _ 3 (rB B p true),by simp⟩
 | cons c t =>
  rw [hdr] at g3
  obtain⟨hpl,_,hdt⟩:=drop_get hdr
  refine regS_path [] ?_
  simp
  refine icall_T (TB _ _ _ _) (hcall_of_bcall (rNext_ok B t p c hdr)) ?_
  refine⟨0,_,_,rfl,rfl,rfl,?_⟩
  simp [dU]
  have hcl:=c.toNat_lt
  have e1:IntKind.i64.wrap (7*(i:Int))=7*(i:Int):=wrap64 (by omega)
  by_cases hgood:(i=0∨c≠0)∧(i<9∨c≤1)
  ·obtain⟨q,sm,hq,hsm,hsm2,e2,e3⟩:=rnum_arith i acc c g1 g2 hgood.2
   rw [pNum,if_pos hgood] at g3
   have hlt8:(c.toNat:Int)<128↔c<128:=by rw [UInt8.lt_iff_toNat_lt];show _↔c.toNat<128;omega
   have hge:¬ (c.toNat:Int)<128:=fun h=>by rw [if_pos (hlt8.1 h)] at g3;cases g3
   rw [if_neg (fun h=>hge (hlt8.2 h))] at g3
   have g5:pNum (i+1) t=none:=by simpa using g3
   have b0:i<9:=by
    rcases hgood.2 with h | h
    ·exact h
    ·rw [UInt8.le_iff_toNat_le] at h;have h:c.toNat≤1:=h;omega
   have b1:((i:Int) == 9)=false:=by simp;omega
   have hi1:IntKind.i64.wrap ((i:Int)+1)=((i+1:Nat):Int):=by rw [wrap64 (by omega)];omega
   have hge2:(128:Int)≤c.toNat:=by omega
   have b3:¬ c.toNat=0:=by omega
   clear g3 hgood
   by_cases b2:0<i
   ·refine vc_path [] ?_
    simp [e1,e2,e3,b1,b2,b3]
    rw [show ((p:Int)+1)=((p+1:Nat):Int) by omega]
    refine⟨by omega,fun h=>absurd h hge,fun _=>⟨i+1,sm,p+1,⟨by omega,hsm2,by omega,by rw [hdt];exact g5⟩,by omega,[],[],?_⟩⟩
    simp [hi1]
   ·refine vc_path [] ?_
    simp [e1,e2,e3,b1,b2,b3]
    rw [show ((p:Int)+1)=((p+1:Nat):Int) by omega]
    refine⟨by omega,fun h=>absurd h hge,fun _=>⟨i+1,sm,p+1,⟨by omega,hsm2,by omega,by rw [hdt];exact g5⟩,by omega,[],[],?_⟩⟩
    simp [hi1]
  ·have hc3:((i:Int) == 9)=true∧(1:Int)<(c.toNat:Int)∨((i:Int) == 9)=true∧¬ (1:Int)<(c.toNat:Int)∧0<i∧c.toNat=0∨((i:Int) == 9)=false∧0<i∧c.toNat=0:=by
    by_cases h9:i=9
    ·by_cases h1:(1:Int)<(c.toNat:Int)
     ·exact .inl ⟨by simp;omega,h1⟩
     ·have h2:c≤1:=by rw [UInt8.le_iff_toNat_le];show c.toNat≤1;omega
      have h3:c=0:=Classical.byContradiction fun h=>hgood ⟨.inr h,.inr h2⟩
      exact .inr (.inl ⟨by simp;omega,h1,by omega,by simp [h3]⟩)
    ·have h3:i≠0∧c=0:=by
      refine⟨fun h=>hgood ⟨.inl h,.inl (by omega)⟩,Classical.byContradiction fun h=>hgood ⟨.inr h,.inl (by omega)⟩⟩
     exact .inr (.inr ⟨by simp;omega,by omega,by simp [h3.2]⟩)
   clear g3 hgood
   rcases hc3 with ⟨b1,b2⟩ | ⟨b1,b2,b3,b4⟩ | ⟨b1,b2,b3⟩
   ·refine vc_path [] ?_
    simp [b1,b2]
    rw [show ((p:Int)+1)=((p+1:Nat):Int) by omega]
    exact⟨_,⟨p+1,by omega,rfl⟩,leL_map _ _ _ 3 (rB B (p+1) true),by simp⟩
   ·refine vc_path [] ?_
    simp [b1,b2,b3,b4]
    rw [show ((p:Int)+1)=((p+1:Nat):Int) by omega]
    exact⟨_,⟨p+1,by omega,rfl⟩,leL_map _ _ _ 3 (rB B (p+1) true),by simp⟩
   ·refine vc_path [] ?_
    simp [b1,b2,b3]
    rw [show ((p:Int)+1)=((p+1:Nat):Int) by omega]
    exact⟨_,⟨p+1,by omega,rfl⟩,leL_map _ _ _ 3 (rB B (p+1) true),by simp⟩
def gVs (p:List UInt8→Option (Vl×List UInt8)) (f:List UInt8→Vl):Nat→List UInt8→List Vl
 | 0,_=>[]
 | n+1,b=>match p b with
  | some x=>x.1::gVs p f n x.2
  | none=>[f b]
def gV1 (deep:Option ((List UInt8→Option (Vl×List UInt8))×(List UInt8→Vl))):List UInt8→Vl
 | []=>zV
 | k::r=>if k=1 then .mk 1 0 [] []
  else if k=2 then zV
  else if k=3 then (match deep with
   | none=>zV
   | some q=>match pNum 0 r with
    | none=>zV
    | some x=>if x.1≤x.2.length then .mk 3 0 [] (gVs q.1 q.2 x.1 x.2) else zV)
  else zV
def gV:Nat→List UInt8→Vl
 | 0=>gV1 none
 | d+1=>gV1 (some (pV d,gV d))
def RVal (dp:Nat) (p:List UInt8→Option (Vl×List UInt8)) (f:List UInt8→Vl):Prop :=
 (∀ (B r:List UInt8) (a:Nat) (v:Vl),B.length≤1099511627776→a≤B.length→p (B.drop a)=some (v,r)→BCall Tryz.prog 132 (rB B a false) [dI dp] (.ret (dV v)) (fun x=>∃ a',a'≤B.length∧B.drop a'=r∧x=rB B a' false)) ∧
 (∀ (B:List UInt8) (a:Nat),B.length≤1099511627776→a≤B.length→p (B.drop a)=none→BCall Tryz.prog 132 (rB B a false) [dI dp] (.ret (dV (f (B.drop a)))) (fun x=>∃ a',a'≤B.length∧x=rB B a' true))
theorem rval1_ok(dp:Nat) (deep:Option (List UInt8→Option (Vl×List UInt8))) (f:List UInt8→Vl) (hd:dp≤16) (hdeep:∀ p,deep=some p→dp<16∧RVal (dp+1) p f) (B r:List UInt8) (a:Nat) (v:Vl) (hb:B.length≤1099511627776) (ha:a≤B.length) (h:pV1 deep (B.drop a)=some (v,r)) :
  BCall Tryz.prog 132 (rB B a false) [dI dp] (.ret (dV v)) (fun x=>∃ a',a'≤B.length∧B.drop a'=r∧x=rB B a' false):=by
 refine bcall_of_vc noC c132 (by simp [a132]) fun hr1 hr=>?_
 simp [a132]
 cases hdr:B.drop a with
 | nil=>rw [hdr] at h;simp [pV1] at h
 | cons c t =>
  rw [hdr] at h
  obtain⟨hpl,_,hdt⟩:=drop_get hdr
  refine regS_path [] ?_
  simp
  refine icall_T (TB _ _ _ _) (hcall_of_bcall (rNext_ok B t a c hdr)) ?_
  refine⟨0,_,_,rfl,rfl,rfl,?_⟩
  simp
  have hcl:=c.toNat_lt
  have hcn:∀ k:UInt8,c=k↔c.toNat=k.toNat:=fun k=>UInt8.toNat_inj.symm
  simp [dU]
  rw [pV1] at h
  rw [show ((a:Int)+1)=((a+1:Nat):Int) by omega]
  by_cases hk1:c=1
  ·rw [if_pos hk1] at h
   cases hx:pNum 0 t with
   | none=>rw [hx] at h;cases h
   | some x =>
    obtain⟨u,r1⟩:=x
    rw [hx] at h
    simp at h
    obtain⟨rfl,rfl⟩:=h
    have hk:c.toNat=1:=(hcn 1).1 hk1
    have hul:=pNum_lt hx
    refine⟨fun _=>?_,fun h=>absurd (by omega) h⟩
    refine regS_path [] ?_
    simp
    refine icall_T (TB _ _ _ _) (hcall_of_bcall (rNumber_ok B r1 (a+1) u (by omega) (by rw [hdt];exact hx))) ?_
    refine⟨0,_,_,rfl,rfl,rfl,?_⟩
    rintro cs' ⟨a',q1,q2,rfl⟩ _
    simp
    have w1:IntKind.u64.wrap ((u:Int) / 2)=((u / 2:Nat):Int):=by rw [wrap_u64 (by omega) (by omega)];omega
    have w2:IntKind.i64.wrap ((u / 2:Nat):Int)=((u / 2:Nat):Int):=wrap64 (by omega)
    have w3:IntKind.i64.wrap (-((u / 2:Nat):Int))=-((u / 2:Nat):Int):=wrap64 (by omega)
    have w4:IntKind.i64.wrap (-((u / 2:Nat):Int)-1)=-((u / 2:Nat):Int)-1:=wrap64 (by omega)
    have htm:(u:Int).tmod 2=((u % 2:Nat):Int):=by rw [Int.tmod_eq_emod_of_nonneg (by omega)];omega
    have hbox:∃ cs',(∃ a',a'≤B.length∧List.drop a' B=r1∧cs'=rB B a' false)∧leA.leL noRen noNew noOk 3 [AV.d (D.sl 1 (List.map dU B)),AV.d (D.lit (Value.int IntKind.i64 (a':Int))),AV.d (D.lit (Value.bool false))] (List.map AV.d cs')∧∀ (c:D),c∈cs'→c.one=true :=
     ⟨_,⟨a',q1,q2,rfl⟩,leL_map _ _ _ 3 (rB B a' false),by simp⟩
    rw [w1,w2,w3,w4,htm,dV_eq]
    refine⟨fun h=>⟨LeD.agg (.cons (LeD.refl _) (.cons (leD_of_eq ?_) (.cons (LeD.refl _) (.cons (LeD.nil 4) .nil)))) (by simp),hbox⟩,fun h=>⟨LeD.agg (.cons (LeD.refl _) (.cons (leD_of_eq ?_) (.cons (LeD.refl _) (.cons (LeD.nil 4) .nil)))) (by simp),hbox⟩⟩
    ·unfold sgn;rw [if_pos (by omega)];rfl
    ·unfold sgn;rw [if_neg (by omega)];rfl
  rw [if_neg hk1] at h
  have hn1:¬ (c.toNat:Int)=1:=fun h=>hk1 ((hcn 1).2 (by show c.toNat=1;omega))
  by_cases hk2:c=2
  ·rw [if_pos hk2] at h
   cases hx:pNum 0 t with
   | none=>rw [hx] at h;cases h
   | some x =>
    obtain⟨u,r1⟩:=x
    rw [hx,Option.bind_some] at h
    simp only at h
    split at h
    case isFalse=>cases h
    case isTrue hu =>
    simp at h
    obtain⟨rfl,rfl⟩:=h
    have hk:c.toNat=2:=(hcn 2).1 hk2
    refine⟨fun h=>absurd h hn1,fun _=>⟨fun _=>?_,fun h=>absurd (by omega) h⟩⟩
    refine regS_path [] ?_
    simp
    refine icall_T (TB _ _ _ _) (hcall_of_bcall (rNumber_ok B r1 (a+1) u (by omega) (by rw [hdt];exact hx))) ?_
    refine⟨0,_,_,rfl,rfl,rfl,?_⟩
    rintro cs' ⟨a',q1,q2,rfl⟩ _
    have hr1l:r1.length=B.length-a':=by rw [← q2,List.length_drop]
    have hs1:IntKind.i64.wrap ((B.length:Int)-(a':Int))=(r1.length:Int):=by rw [wrap64 (by omega)];omega
    have hs2:IntKind.u64.wrap (r1.length:Int)=(r1.length:Int):=wrap_u64 (by omega) (by omega)
    have hs3:¬ (r1.length:Int)<(u:Int):=by omega
    have hs4:IntKind.i64.wrap (u:Int)=u:=wrap64 (by omega)
    have hs5:IntKind.i64.wrap ((a':Int)+(u:Int))=(a':Int)+(u:Int):=wrap64 (by omega)
    have hs6:IntKind.i64.wrap (a':Int)=(a':Int):=wrap64 (by omega)
    simp
    refine vc_pathD [] ?_
    simp [hs1,hs2,hs3,hs4,hs5,hs6]
    have htn:((a':Int)+(u:Int)).toNat=a'+u:=by omega
    have hsl:((B.map dU).take (a'+u)).drop a'=(r1.take u).map dU:=by
     rw [List.drop_take,← List.map_drop,q2,Nat.add_sub_cancel_left,List.map_take]
    rw [htn,hsl,show (a':Int)+(u:Int)=((a'+u:Nat):Int) by omega,dV_eq]
    refine⟨rfl,⟨by omega,by omega⟩,fun e he=>?_,rfl,LeD.agg (.cons (LeD.refl _) (.cons (LeD.refl _) (.cons (leD_of_eq (by rw [bytesOf_map];rfl)) (.cons (LeD.nil 4) .nil)))) (by simp),_,⟨a'+u,by omega,by rw [← q2,List.drop_drop],rfl⟩,leL_map _ _ _ 3 (rB B (a'+u) false),by simp⟩
    obtain⟨y,_,rfl⟩:=List.mem_map.1 he
    rfl
  rw [if_neg hk2] at h
  have hn2:¬ (c.toNat:Int)=2:=fun h=>hk2 ((hcn 2).2 (by show c.toNat=2;omega))
  by_cases hk3:c=3
  case neg=>rw [if_neg hk3] at h;cases h
  rw [if_pos hk3] at h
  have hk:c.toNat=3:=(hcn 3).1 hk3
  cases hdp:deep with
  | none=>rw [hdp] at h;cases h
  | some p =>
   obtain⟨hlt,hp⟩:=hdeep p hdp
   rw [hdp,Option.bind_some] at h
   cases hx:pNum 0 t with
   | none=>rw [hx] at h;cases h
   | some x =>
    obtain⟨u,r1⟩:=x
    rw [hx,Option.bind_some] at h
    simp only at h
    split at h
    case isFalse=>cases h
    case isTrue hu =>
    cases hy:pVs p u r1 with
    | none=>rw [hy] at h;cases h
    | some y =>
     obtain⟨vs,r2⟩:=y
     rw [hy] at h
     simp at h
     obtain⟨rfl,rfl⟩:=h
     have hlt':((dp:Int) == 16)=false:=by simp;omega
     refine⟨fun h=>absurd h hn1,fun _=>⟨fun h=>absurd h hn2,fun _=>⟨fun _=>?_,fun h=>absurd (by omega) h⟩⟩⟩
     refine regS_path [] ?_
     simp
     refine icall_T (TB _ _ _ _) (hcall_of_bcall (rNumber_ok B r1 (a+1) u (by omega) (by rw [hdt];exact hx))) ?_
     refine⟨0,_,_,rfl,rfl,rfl,?_⟩
     rintro cs' ⟨a',q1,q2,rfl⟩ _
     have hr1l:r1.length=B.length-a':=by rw [← q2,List.length_drop]
     have hs1:IntKind.i64.wrap ((B.length:Int)-(a':Int))=(r1.length:Int):=by rw [wrap64 (by omega)];omega
     have hs2:IntKind.u64.wrap (r1.length:Int)=(r1.length:Int):=wrap_u64 (by omega) (by omega)
     have hs3:¬ (r1.length:Int)<(u:Int):=by omega
     simp
     refine vc_pathD [] ?_
     simp [hs1,hs2,hs3,hlt']
     refine⟨rfl,?_⟩
     refine vc_loopK [0,1,4,7,8] (Nat×List Vl×Nat) (fun x=>[(9,true,.d (.lit (.int .u64 x.1)))]) (fun x=>[(0,.box true [.d (.sl 1 (B.map dU)),.d (dI x.2.2),.d (dB false)]),(2,.box true [.d (dI 3),.d (dI 0),.d (dZ []),.own 3 4 (x.2.1.map dV)]),(3,.row)])
      (fun x=>x.1≤u∧x.2.1.length=x.1∧x.2.2≤B.length∧(pVs p (u-x.1) (B.drop x.2.2)).map (fun y=>(x.2.1++y.1,y.2))=some (vs,r2)) (fun x=>u-x.1) (0,[],a') ⟨by omega,rfl,q1,by rw [Nat.sub_zero,q2,hy];rfl⟩ ⟨[],[(3,4)],?_⟩ (fun x hx=>?_)
     ·simp
      exact LeD.refl _
     obtain⟨i,es,q⟩:=x
     obtain⟨g1,g2,g3,g4⟩:=hx
     simp only at g1 g2 g3 g4
     simp
     refine vc_path [] ?_
     by_cases hlt2:i<u
     ·have hwd:IntKind.i64.wrap ((dp:Int)+1)=(dp:Int)+1:=wrap64 (by omega)
      have hwi:IntKind.u64.wrap ((i:Int)+1)=((i+1:Nat):Int):=by rw [wrap_u64 (by omega) (by omega)];omega
      simp [hlt2]
      rw [show u-i=(u-(i+1))+1 by omega,pVs] at g4
      cases hq:p (B.drop q) with
      | none=>rw [hq] at g4;cases g4
      | some z =>
       obtain⟨w,rest2⟩:=z
       rw [hq,Option.bind_some] at g4
       have hB:=hp.1 B rest2 q w hb g3 hq
       rw [show ((dp+1:Nat):Int)=(dp:Int)+1 by omega] at hB
       refine regI_path [] [] [] ?_
       simp [hwd]
       refine⟨rfl,icallD_T (TB _ _ _ _) (hcall_of_bcall hB) ?_⟩
       refine⟨0,_,_,rfl,rfl,rfl,?_⟩
       rintro cs' ⟨q',q3,q4,rfl⟩ _
       simp
       refine⟨rfl,⟨by omega,by omega⟩,i+1,es++[w],q',⟨by omega,by simp [g2],q3,?_⟩,by omega,[(3,5)],[],?_⟩
       ·rw [q4]
        cases hz:pVs p (u-(i+1)) rest2 with
        | none=>rw [hz] at g4;cases g4
        | some z =>
         rw [hz] at g4
         simp at g4
         exact⟨z.1,by rw [← g4.2],by simpa using g4.1⟩
       ·simp [hwi]
     ·have hiu:u-i=0:=by omega
      rw [hiu,pVs] at g4
      simp at g4
      obtain⟨rfl,g5⟩:=g4
      simp [hlt2,dV_eq]
      exact⟨_,⟨q,g3,g5,rfl⟩,leL_map _ _ _ 3 (rB B q false),by simp⟩
theorem gV1_cons(deep:Option ((List UInt8→Option (Vl×List UInt8))×(List UInt8→Vl))) (k:UInt8) (r:List UInt8):gV1 deep (k::r)=if k=1 then .mk 1 0 [] [] else if k=2 then zV else if k=3 then (match deep with | none=>zV | some q=>match pNum 0 r with | none=>zV | some x=>if x.1≤x.2.length then .mk 3 0 [] (gVs q.1 q.2 x.1 x.2) else zV) else zV:=by rw [gV1.eq_def]
theorem leZV':LeD (.agg [.lit (.int .i64 0),.lit (.int .i64 0),.lit (.string ⟨#[]⟩),.nil 4]) (dV zV):=leZV
theorem rval1_no(dp:Nat) (deep:Option ((List UInt8→Option (Vl×List UInt8))×(List UInt8→Vl))) (hd:dp≤16) (hdeep:∀ q,deep=some q→dp<16∧RVal (dp+1) q.1 q.2) (hnone:deep=none→dp=16) (B:List UInt8) (a:Nat) (hb:B.length≤1099511627776) (ha:a≤B.length) (h:pV1 (deep.map (·.1)) (B.drop a)=none) :
  BCall Tryz.prog 132 (rB B a false) [dI dp] (.ret (dV (gV1 deep (B.drop a)))) (fun x=>∃ a',a'≤B.length∧x=rB B a' true):=by
 refine bcall_of_vc noC c132 (by simp [a132]) fun hr1 hr=>?_
 simp [a132]
 cases hdr:B.drop a with
 | nil =>
  refine regS_path [] ?_
  simp
  refine icall_T (TB _ _ _ _) (hcall_of_bcall (rNext_end B a hdr ha)) ?_
  refine⟨0,_,_,rfl,rfl,rfl,?_⟩
  simp [dU,gV1]
  exact⟨leZV',_,⟨a,ha,rfl⟩,leL_map _ _ _ 3 (rB B a true),by simp⟩
 | cons c t =>
  rw [hdr] at h
  obtain⟨hpl,_,hdt⟩:=drop_get hdr
  refine regS_path [] ?_
  simp
  refine icall_T (TB _ _ _ _) (hcall_of_bcall (rNext_ok B t a c hdr)) ?_
  refine⟨0,_,_,rfl,rfl,rfl,?_⟩
  simp
  have hcl:=c.toNat_lt
  have hcn:∀ k:UInt8,c=k↔c.toNat=k.toNat:=fun k=>UInt8.toNat_inj.symm
  simp [dU]
  rw [pV1] at h
  rw [show ((a:Int)+1)=((a+1:Nat):Int) by omega]
  by_cases hk1:c=1
  ·rw [if_pos hk1] at h
   have hz:gV1 deep (c::t)=.mk 1 0 [] []:=by rw [gV1_cons,if_pos hk1]
   rw [hz]
   have hx:pNum 0 t=none:=by simpa using h
   have hk:c.toNat=1:=(hcn 1).1 hk1
   refine⟨fun _=>?_,fun h=>absurd (by omega) h⟩
   refine regS_path [] ?_
   simp
   refine icall_T (TB _ _ _ _) (hcall_of_bcall (rNumber_no B (a+1) (by omega) (by rw [hdt];exact hx))) ?_
   refine⟨0,_,_,rfl,rfl,rfl,?_⟩
   rintro cs' ⟨a',q1,rfl⟩ _
   have w1:IntKind.u64.wrap 0=0:=by decide
   have w2:IntKind.i64.wrap 0=0:=by decide
   simp [w1,w2,dV_eq]
   exact⟨LeD.agg (.cons (LeD.refl _) (.cons (LeD.refl _) (.cons (LeD.refl _) (.cons (LeD.nil 4) .nil)))) (by simp),_,⟨a',q1,rfl⟩,leL_map _ _ _ 3 (rB B a' true),by simp⟩
  rw [if_neg hk1] at h
  have hn1:¬ (c.toNat:Int)=1:=fun h=>hk1 ((hcn 1).2 (by show c.toNat=1;omega))
  by_cases hk2:c=2
  ·rw [if_pos hk2] at h
   have hz:gV1 deep (c::t)=zV:=by rw [gV1_cons,if_neg hk1,if_pos hk2]
   rw [hz]
   have hk:c.toNat=2:=(hcn 2).1 hk2
   refine⟨fun h=>absurd h hn1,fun _=>⟨fun _=>?_,fun h=>absurd (by omega) h⟩⟩
   refine regS_path [] ?_
   simp
   cases hx:pNum 0 t with
   | none =>
    refine icall_T (TB _ _ _ _) (hcall_of_bcall (rNumber_no B (a+1) (by omega) (by rw [hdt];exact hx))) ?_
    refine⟨0,_,_,rfl,rfl,rfl,?_⟩
    rintro cs' ⟨a',q1,rfl⟩ _
    simp
    refine vc_pathD [] ?_
    simp
    exact⟨rfl,leZV',_,⟨a',q1,rfl⟩,leL_map _ _ _ 3 (rB B a' true),by simp⟩
   | some x =>
    obtain⟨u,r1⟩:=x
    rw [hx,Option.bind_some] at h
    simp only at h
    have hu:r1.length<u:=by
     rcases Nat.lt_or_ge r1.length u with h' | h'
     ·exact h'
     ·rw [if_pos h'] at h;cases h
    refine icall_T (TB _ _ _ _) (hcall_of_bcall (rNumber_ok B r1 (a+1) u (by omega) (by rw [hdt];exact hx))) ?_
    refine⟨0,_,_,rfl,rfl,rfl,?_⟩
    rintro cs' ⟨a',q1,q2,rfl⟩ _
    have hr1l:r1.length=B.length-a':=by rw [← q2,List.length_drop]
    have hs1:IntKind.i64.wrap ((B.length:Int)-(a':Int))=(r1.length:Int):=by rw [wrap64 (by omega)];omega
    have hs2:IntKind.u64.wrap (r1.length:Int)=(r1.length:Int):=wrap_u64 (by omega) (by omega)
    have hs3:(r1.length:Int)<(u:Int):=by omega
    simp
    refine vc_pathD [] ?_
    simp [hs1,hs2,hs3]
    exact⟨rfl,leZV',_,⟨a',q1,rfl⟩,leL_map _ _ _ 3 (rB B a' true),by simp⟩
  rw [if_neg hk2] at h
  have hn2:¬ (c.toNat:Int)=2:=fun h=>hk2 ((hcn 2).2 (by show c.toNat=2;omega))
  by_cases hk3:c=3
  case neg =>
   have hz:gV1 deep (c::t)=zV:=by rw [gV1_cons,if_neg hk1,if_neg hk2,if_neg hk3]
   rw [hz]
   have hn3:¬ (c.toNat:Int)=3:=fun h=>hk3 ((hcn 3).2 (by show c.toNat=3;omega))
   refine⟨fun h=>absurd h hn1,fun _=>⟨fun h=>absurd h hn2,fun _=>⟨fun h=>absurd h hn3,fun _=>?_⟩⟩⟩
   exact⟨leZV',_,⟨a+1,by omega,rfl⟩,leL_map _ _ _ 3 (rB B (a+1) true),by simp⟩
  rw [if_pos hk3] at h
  have hk:c.toNat=3:=(hcn 3).1 hk3
  refine⟨fun h=>absurd h hn1,fun _=>⟨fun h=>absurd h hn2,fun _=>⟨fun _=>?_,fun h=>absurd (by omega) h⟩⟩⟩
  refine regS_path [] ?_
  simp
  cases hx:pNum 0 t with
  | none =>
   refine icall_T (TB _ _ _ _) (hcall_of_bcall (rNumber_no B (a+1) (by omega) (by rw [hdt];exact hx))) ?_
   refine⟨0,_,_,rfl,rfl,rfl,?_⟩
   rintro cs' ⟨a',q1,rfl⟩ _
   simp
   have hz:gV1 deep (c::t)=zV:=by
    rw [gV1_cons,if_neg hk1,if_neg hk2,if_pos hk3,hx];cases deep <;> rfl
   rw [hz]
   refine vc_pathD [] ?_
   simp
   exact⟨rfl,leZV',_,⟨a',q1,rfl⟩,leL_map _ _ _ 3 (rB B a' true),by simp⟩
  | some x =>
   obtain⟨u,r1⟩:=x
   refine icall_T (TB _ _ _ _) (hcall_of_bcall (rNumber_ok B r1 (a+1) u (by omega) (by rw [hdt];exact hx))) ?_
   refine⟨0,_,_,rfl,rfl,rfl,?_⟩
   rintro cs' ⟨a',q1,q2,rfl⟩ _
   have hr1l:r1.length=B.length-a':=by rw [← q2,List.length_drop]
   have hs1:IntKind.i64.wrap ((B.length:Int)-(a':Int))=(r1.length:Int):=by rw [wrap64 (by omega)];omega
   have hs2:IntKind.u64.wrap (r1.length:Int)=(r1.length:Int):=wrap_u64 (by omega) (by omega)
   simp
   rcases Nat.lt_or_ge r1.length u with hu | hu
   ·have hs3:(r1.length:Int)<(u:Int):=by omega
    have hz:gV1 deep (c::t)=zV:=by
     rw [gV1_cons,if_neg hk1,if_neg hk2,if_pos hk3,hx]
     cases deep with
     | none=>rfl
     | some q=>simp only;rw [if_neg (by omega)]
    rw [hz]
    refine vc_pathD [] ?_
    simp [hs1,hs2,hs3]
    exact⟨rfl,leZV',_,⟨a',q1,rfl⟩,leL_map _ _ _ 3 (rB B a' true),by simp⟩
   have hs3:¬ (r1.length:Int)<(u:Int):=by omega
   cases hdp:deep with
   | none =>
    have hz:gV1 (none:Option ((List UInt8→Option (Vl×List UInt8))×(List UInt8→Vl))) (c::t)=zV:=by
     rw [gV1_cons,if_neg hk1,if_neg hk2,if_pos hk3]
    rw [hz]
    have hlt':((dp:Int) == 16)=true:=by have:=hnone hdp;simp;omega
    refine vc_pathD [] ?_
    simp [hs1,hs2,hs3,hlt']
    exact⟨rfl,leZV',_,⟨a',q1,rfl⟩,leL_map _ _ _ 3 (rB B a' true),by simp⟩
   | some pf =>
    obtain⟨p,f⟩:=pf
    obtain⟨hlt,hp⟩:=hdeep _ hdp
    simp only at hp
    rw [hdp] at h
    simp only [Option.map_some,Option.bind_some,hx] at h
    rw [if_pos hu] at h
    have hy:pVs p u r1=none:=by simpa using h
    have hz:gV1 (some (p,f)) (c::t)=.mk 3 0 [] (gVs p f u r1):=by
     rw [gV1_cons,if_neg hk1,if_neg hk2,if_pos hk3,hx]
     simp only;rw [if_pos hu]
    rw [hz]
    have hlt':((dp:Int) == 16)=false:=by simp;omega
    refine vc_pathD [] ?_
    simp [hs1,hs2,hs3,hlt']
    refine⟨rfl,?_⟩
    refine vc_loopK [0,1,4,7,8] (Nat×List Vl×Nat×Bool) (fun x=>[(9,true,.d (.lit (.int .u64 x.1)))]) (fun x=>[(0,.box true [.d (.sl 1 (B.map dU)),.d (dI x.2.2.1),.d (dB x.2.2.2)]),(2,.box true [.d (dI 3),.d (dI 0),.d (dZ []),.own 3 4 (x.2.1.map dV)]),(3,.row)])
     (fun x=>x.1≤u∧x.2.1.length=x.1∧x.2.2.1≤B.length∧(if x.2.2.2=true then x.2.1=gVs p f u r1 else pVs p (u-x.1) (B.drop x.2.2.1)=none∧x.2.1++gVs p f (u-x.1) (B.drop x.2.2.1)=gVs p f u r1)) (fun x=>u-x.1) (0,[],a',false) ⟨by omega,rfl,q1,by simp [q2,hy]⟩ ⟨[],[(3,4)],?_⟩ (fun x hx=>?_)
    ·simp
     exact LeD.refl _
    obtain⟨i,es,q,bad⟩:=x
    obtain⟨g1,g2,g3,g4⟩:=hx
    simp only at g1 g2 g3 g4
    simp
    refine vc_path [] ?_
    cases bad with
    | true =>
     simp at g4
     by_cases hlt2:i<u
     ·simp [hlt2,dV_eq,g4]
      exact⟨_,⟨q,g3,rfl⟩,leL_map _ _ _ 3 (rB B q true),by simp⟩
     ·simp [hlt2,dV_eq,g4]
      exact⟨_,⟨q,g3,rfl⟩,leL_map _ _ _ 3 (rB B q true),by simp⟩
    | false =>
     simp at g4
     obtain⟨g4,g5⟩:=g4
     by_cases hlt2:i<u
     ·have hwd:IntKind.i64.wrap ((dp:Int)+1)=(dp:Int)+1:=wrap64 (by omega)
      have hwi:IntKind.u64.wrap ((i:Int)+1)=((i+1:Nat):Int):=by rw [wrap_u64 (by omega) (by omega)];omega
      simp [hlt2]
      rw [show u-i=(u-(i+1))+1 by omega,pVs] at g4
      rw [show u-i=(u-(i+1))+1 by omega,gVs] at g5
      refine regI_path [] [] [] ?_
      simp [hwd]
      cases hq:p (B.drop q) with
      | none =>
       rw [hq] at g5
       have hB:=hp.2 B q hb g3 hq
       rw [show ((dp+1:Nat):Int)=(dp:Int)+1 by omega] at hB
       refine⟨rfl,icallD_T (TB _ _ _ _) (hcall_of_bcall hB) ?_⟩
       refine⟨0,_,_,rfl,rfl,rfl,?_⟩
       rintro cs' ⟨q',q3,rfl⟩ _
       simp
       refine⟨rfl,⟨by omega,by omega⟩,i+1,es++[f (B.drop q)],q',.inr ⟨⟨by omega,by simp [g2],q3,g5⟩,by omega,[(3,5)],[],?_⟩⟩
       simp [hwi]
      | some z =>
       obtain⟨w,rest2⟩:=z
       rw [hq,Option.bind_some] at g4
       rw [hq] at g5
       have hB:=hp.1 B rest2 q w hb g3 hq
       rw [show ((dp+1:Nat):Int)=(dp:Int)+1 by omega] at hB
       refine⟨rfl,icallD_T (TB _ _ _ _) (hcall_of_bcall hB) ?_⟩
       refine⟨0,_,_,rfl,rfl,rfl,?_⟩
       rintro cs' ⟨q',q3,q4,rfl⟩ _
       simp
       refine⟨rfl,⟨by omega,by omega⟩,i+1,es++[w],q',.inl ⟨⟨by omega,by simp [g2],q3,by rw [q4];simpa using g4,by rw [q4];simpa using g5⟩,by omega,[(3,5)],[],?_⟩⟩
       simp [hwi]
     ·have hiu:u-i=0:=by omega
      rw [hiu,pVs] at g4
      cases g4
theorem rvalOk:∀ d:Nat,d≤16→RVal (16-d) (pV d) (gV d)
 | 0,_=>⟨fun B r a v hb ha h=>rval1_ok 16 none (gV 0) (by omega) (fun p hp=>by cases hp) B r a v hb ha h,fun B a hb ha h=>rval1_no 16 none (by omega) (fun p hp=>by cases hp) (fun _=>rfl) B a hb ha h⟩
 | d+1,hd=>by
  have ih:=rvalOk d (by omega)
  have hdeep:∀ p,some (pV d)=some p→16-(d+1)<16∧RVal (16-(d+1)+1) p (gV d):=fun p hp=>by
   injection hp with hp;subst hp
   exact⟨by omega,by rw [show 16-(d+1)+1=16-d by omega];exact ih⟩
  have hdeep2:∀ q,some (pV d,gV d)=some q→16-(d+1)<16∧RVal (16-(d+1)+1) q.1 q.2:=fun q hq=>by
   injection hq with hq;subst hq
   exact⟨by omega,by rw [show 16-(d+1)+1=16-d by omega];exact ih⟩
  exact⟨fun B r a v hb ha h=>rval1_ok (16-(d+1)) (some (pV d)) (gV d) (by omega) hdeep B r a v hb ha h,fun B a hb ha h=>rval1_no (16-(d+1)) (some (pV d,gV d)) (by omega) hdeep2 (fun h=>by cases h) B a hb ha h⟩
inductive C531:FuncId→List D→Out→Prop
 | check (v:Vl) (h:dpV v<4611686018427387904):C531 114 [dV v] (.ret (dI (eV v)))
 | enc (v:Vl) (h:(encV v).length≤140737488355328):C531 115 [dV v] (.ret (dBy (encV v)))
theorem h531:∀ f ds out,C531 f ds out→PCall Tryz.prog f ds out:=by
 intro f ds out h
 cases h with
 | check v h=>exact rccheck v h
 | enc v h=>exact rencode v h
theorem rDecode(b:List UInt8) (hb:b.length≤1099511627776):PCall Tryz.prog 95 [.sl 1 (b.map dU)] (.ret (.tup [dV (decL b),dI (decE b)])):=by
 refine pcall_of_vc h531 c95 (by simp [a95]) fun hr=>?_
 simp [a95]
 refine regS_path [] ?_
 simp
 have hv:=rvalOk 16 (by omega)
 rw [Nat.sub_self] at hv
 cases hp:pV 16 b with
 | none =>
  have e1:decV b=none:=by unfold decV;rw [hp]
  have e2:decL b=zV:=by unfold decL;rw [e1];rfl
  have e3:decE b=10:=by unfold decE;rw [e1];rfl
  rw [e2,e3]
  refine icall_T (TB _ _ _ _) (hcall_of_bcall (hv.2 b 0 hb (Nat.zero_le _) hp)) ?_
  refine⟨1,_,_,rfl,rfl,rfl,?_⟩
  rintro cs' ⟨a',q1,rfl⟩ _
  simp
  refine vc_pathD [] ?_
  simp
  exact⟨rfl,leZV'⟩
 | some x =>
  obtain⟨v,r⟩:=x
  refine icall_T (TB _ _ _ _) (hcall_of_bcall (hv.1 b r 0 v hb (Nat.zero_le _) hp)) ?_
  refine⟨1,_,_,rfl,rfl,rfl,?_⟩
  rintro cs' ⟨a',q1,q2,rfl⟩ _
  simp
  cases r with
  | nil =>
   have e1:decV b=some v:=by unfold decV;rw [hp]
   have e2:decL b=v:=by unfold decL;rw [e1];rfl
   have e3:decE b=0:=by unfold decE;rw [e1];rfl
   obtain⟨s1,s2,s3⟩:=decV_sound e1
   have ha:a'=b.length:=by have:=List.drop_eq_nil_iff.1 q2;omega
   have hev:eV v=0:=by unfold eV;rw [if_pos s2,if_pos s3]
   have k1:=C531.check v (by omega)
   have k2:=C531.enc v (by rw [← s1];omega)
   rw [hev] at k1
   rw [← s1] at k2
   rw [dV_agg] at k1 k2
   rw [e2,e3,ha]
   refine vc_pathD [.ret (dI 0),.ret (.sl 1 (b.map dU))] ?_
   simp
   have hu:∀ x:UInt8,(dU x).u8.isSome=true:=fun x=>rfl
   refine⟨k1,k2,fun x _=>hu x,rfl,?_⟩
   exact leD_of_eq (dV_agg v).symm
  | cons c r =>
   have e1:decV b=none:=by unfold decV;rw [hp]
   have e2:decL b=zV:=by unfold decL;rw [e1];rfl
   have e3:decE b=10:=by unfold decE;rw [e1];rfl
   rw [e2,e3]
   have ha:¬ (a':Int)=b.length:=fun h=>by
    rw [List.drop_eq_nil_of_le (by omega)] at q2;cases q2
   refine vc_pathD [] ?_
   simp [ha]
   exact⟨rfl,leZV'⟩
end

section
attribute [local simp] dZ_agg dZ_nt dZ_noTup dZ_cells dZ_one bz_toList bz_size strV dV_cells dV_isAgg dV_noTup dV_nt dSp_cells dSp_isAgg dSp_noTup dSp_nt dCh_cells dCh_isAgg dCh_noTup dCh_nt dNt_cells dNt_isAgg dNt_noTup dNt_nt
set_option maxRecDepth 8000
set_option maxHeartbeats 4000000
def pCh (c:Ch):Ch:=⟨c.at_,1,c.sp,c.ha,by omega⟩
theorem doE_nil(c:Ch):doDE [] (pCh c)=if okTm c.at_&&okSp c.sp then 0 else 490:=by
 have h1:okCh (pCh c)=(okTm c.at_&&okSp c.sp):=by simp [okCh,pCh]
 have h2:fitsL [] (pCh c)=true:=by simp [fitsL,pCh,hasL]
 unfold doDE
 rw [if_neg (by rw [dispE_nil];simp),h1,h2,Bool.and_true]
 cases okTm c.at_&&okSp c.sp <;> simp
inductive C532:FuncId→List D→Out→Prop
 | doN (c:Ch):C532 27 [.nil 0,dCh c] (.ret (.tup [.sl 3 ((doDL [] c).map dSp),dI (doDE [] c)]))
 | rc (c:Ch):C532 99 [dCh c] (.ret (dB (okCh c)))
theorem h532:∀ f ds out,C532 f ds out→PCall Tryz.prog f ds out:=by
 intro f ds out h
 cases h with
 | doN c=>exact(dDo [] c).le (.cons (LeD.nil' _ _) (.cons (LeD.refl _) .nil))
 | rc c=>exact rRightC c
theorem sFormed(n:Nt):PCall Tryz.prog 69 [dNt n] (.ret (dB (okNt n))):=by
 refine pcall_of_vc h532 c69 (by simp [a69]) fun hr=>?_
 simp [a69]
 have k1:=C532.doN (pCh n.ch)
 rw [doE_nil] at k1
 have hok:okNt n=(decide (0≤n.lang)&&(decide (n.lang<32)&&(decide (0≤n.seq)&&(decide (n.seq≤1048576)&&(okTm n.ch.at_&&(decide (1≤n.ch.kind)&&(decide (n.ch.kind≤3)&&okSp n.ch.sp))))))):=rfl
 rw [hok]
 generalize okTm n.ch.at_=p1 at *
 generalize okSp n.ch.sp=p2 at *
 generalize (doDL [] (pCh n.ch)).map dSp=L at *
 obtain⟨E,hE⟩:∃ E:Int,E=(if (p1&&p2)=true then 0 else 490):=⟨_,rfl⟩
 rw [← hE] at k1
 have hE0:(E == 0)=(p1&&p2):=by rw [hE];cases p1 <;> cases p2 <;> rfl
 have hE1:E=0↔(p1&&p2)=true:=by rw [hE];cases p1 <;> cases p2 <;> simp
 refine vc_path [] ?_
 by_cases q5:1≤n.ch.kind <;> by_cases q6:n.ch.kind≤3 <;> simp [q5,q6]
 all_goals
  refine vc_path [.ret (.tup [.sl 3 L,dI E])] ?_
  simp
  refine⟨k1,vc_path [] ?_⟩
  simp
 all_goals
  rw [hE1]
  cases hp:(p1&&p2) <;> (try simp)
 all_goals
  by_cases q1:0≤n.lang <;> by_cases q2:n.lang<32 <;> by_cases q3:0≤n.seq <;> by_cases q4:n.seq≤1048576 <;> simp [q1,q2,q3,q4] <;> omega
theorem rFormed(n:Nt):PCall Tryz.prog 55 [dNt n] (.ret (dB (okNt n))):=by
 refine pcall_of_vc h532 c55 (by simp [a55]) fun hr=>?_
 simp [a55]
 have k1:=C532.rc n.ch
 have hok:okNt n=(decide (0≤n.lang)&&(decide (n.lang<32)&&(decide (0≤n.seq)&&(decide (n.seq≤1048576)&&okCh n.ch)))):=rfl
 rw [hok]
 generalize okCh n.ch=p1 at *
 refine vc_path [.ret (dB p1)] ?_
 by_cases q1:0≤n.lang <;> by_cases q2:n.lang<32 <;> by_cases q3:0≤n.seq <;> by_cases q4:n.seq≤1048576 <;> simp [q1,q2,q3,q4] <;> exact k1
end

section
open Go Go.Proofs.YthimbimilnfdnaaGreatDoor.AL Go.Proofs Go.Shelf
def Tryz.lays106_ren : Go.Shelf.Ren := ⟨fun | 106 => 128 | 213 => 150 | 265 => 170 | n => n, fun | 9 => 9 | 3 => 3 | n => n, fun | n => n⟩
theorem Tryz.lays106 : Go.Proofs.Lays.n106 Tryz.prog Tryz.lays106_ren := {
  mixed := by kernel_rfl
  f106 := Tryz.func128.trans (congrArg some (by kernel_rfl))
  f213 := Tryz.func150.trans (congrArg some (by kernel_rfl))
  f265 := Tryz.func170.trans (congrArg some (by kernel_rfl))
  t3 := Tryz.underlying3
  a3 := Tryz.isAgg3
  z3 := Tryz.sizeOf3
  v3 := Tryz.zeroValue3
  t9 := Tryz.underlying9
  a9 := Tryz.isAgg9
  z9 := Tryz.sizeOf9
  v9 := Tryz.zeroValue9 }
set_option maxRecDepth 8000
set_option maxHeartbeats 4000000
def cmpT (a b:List UInt8):Int:=Lib.compareBytes a b
theorem cmpT_range(a b:List UInt8):cmpT a b=-1∨cmpT a b=0∨cmpT a b=1:=by
 unfold cmpT
 induction a generalizing b with
 | nil=>cases b <;> simp [Lib.compareBytes]
 | cons x a ih =>
  cases b with
  | nil=>simp [Lib.compareBytes]
  | cons y b =>
   rw [Lib.compareBytes]
   split
   ·exact .inl rfl
   ·split
    ·exact .inr (.inr rfl)
    ·exact ih b
theorem cmpT_lt(a b:List UInt8):cmpT a b<0↔bLt a b=true:=by
 unfold cmpT
 induction a generalizing b with
 | nil=>cases b with
  | nil=>simp [Lib.compareBytes,bLt_nil]
  | cons y b=>simp [Lib.compareBytes,bLt_nil_cons]
 | cons x a ih =>
  cases b with
  | nil=>simp [Lib.compareBytes,bLt_nil]
  | cons y b =>
   rw [Lib.compareBytes,bLt_cons]
   by_cases h1:x<y
   ·simp [h1]
   ·rw [if_neg h1]
    by_cases h2:y<x
    ·rw [if_pos h2]
     have:¬ x=y:=fun e=>by subst e;exact absurd h2 (UInt8.lt_irrefl _)
     simp [h1,this]
    ·rw [if_neg h2,ih]
     have:x=y:=by
      rcases Nat.lt_trichotomy x.toNat y.toNat with h | h | h
      ·exact absurd (UInt8.lt_iff_toNat_lt.2 h) h1
      ·exact UInt8.toNat_inj.1 h
      ·exact absurd (UInt8.lt_iff_toNat_lt.2 h) h2
     simp [this]
theorem cmpT_zero(a b:List UInt8):cmpT a b=0↔a=b:=by
 unfold cmpT
 induction a generalizing b with
 | nil=>cases b <;> simp [Lib.compareBytes]
 | cons x a ih =>
  cases b with
  | nil=>simp [Lib.compareBytes]
  | cons y b =>
   rw [Lib.compareBytes]
   by_cases h1:x<y
   ·have:¬ x=y:=fun e=>by subst e;exact absurd h1 (UInt8.lt_irrefl _)
    simp [h1,this]
   ·rw [if_neg h1]
    by_cases h2:y<x
    ·have:¬ x=y:=fun e=>by subst e;exact absurd h2 (UInt8.lt_irrefl _)
     simp [h2,this]
    ·rw [if_neg h2,ih]
     have:x=y:=by
      rcases Nat.lt_trichotomy x.toNat y.toNat with h | h | h
      ·exact absurd (UInt8.lt_iff_toNat_lt.2 h) h1
      ·exact UInt8.toNat_inj.1 h
      ·exact absurd (UInt8.lt_iff_toNat_lt.2 h) h2
     simp [this]
theorem sCompare(a b:List UInt8):PCall Tryz.prog 128 [dZ a,dZ b] (.ret (dI (cmpT a b))):=by
 refine⟨(hcall_of_vc c128).1,fun I w vals hI hgl hr=>?_⟩
 have hget:∀ (k:Nat) (x:List UInt8),[dZ a,dZ b][k]?=some (dZ x)→vals[k]?=some (.string (bz x)):=fun k x hk=>by
  have h1:=hr.1
  have hlt:k<vals.size:=by rw [h1];exact(List.getElem?_eq_some_iff.1 hk).1
  have h2:=hr.2 k (dZ x) vals[k] hk (Array.getElem?_eq_getElem hlt)
  rw [Array.getElem?_eq_getElem hlt]
  generalize vals[k]=y at h2
  cases h2;rfl
 have hv:vals=#[.string (bz a),.string (bz b)]:=by
  have h1:=hr.1
  apply Array.ext_getElem?
  intro i
  match i with
  | 0=>rw [hget 0 a rfl];rfl
  | 1=>rw [hget 1 b rfl];rfl
  | i+2=>rw [Array.getElem?_eq_none (by simp at h1;omega),Array.getElem?_eq_none (by simp)]
 subst hv
 refine(Any.strings_Compare Tryz.lays106 (bz a) (bz b) w).mono fun e w' hh=>?_
 obtain⟨he,rfl⟩:=hh
 have hrg:=cmpT_range a b
 refine⟨I,_,fun _ h=>h,fun _ h=>.inl h,hI,Grow.refl w',he,.lit ?_⟩
 have e1:Lib.compareBytes (bz a).data.toList (bz b).data.toList=cmpT a b:=by simp [bz,cmpT]
 exact⟨by simp [IntKind.min,IntKind.bits,IntKind.signed];omega,by simp [IntKind.max,IntKind.bits,IntKind.signed];omega⟩
end

section
attribute [local simp] dZ_agg dZ_nt dZ_noTup dZ_cells dZ_one bz_toList bz_size strV dV_cells dV_isAgg dV_noTup dV_nt dSp_cells dSp_isAgg dSp_noTup dSp_nt dCh_cells dCh_isAgg dCh_noTup dCh_nt dNt_cells dNt_isAgg dNt_noTup dNt_nt
set_option maxRecDepth 8000
set_option maxHeartbeats 4000000
theorem msgB_len'{n:Nt}(h:n.ch.sp.tx.length≤1000000):(msgB n).length≤2000000:=by
 have hn:∀ m:Int,-9223372036854775808≤m∧m<9223372036854775808→(numL (zz m)).length≤10:=fun m hm=>numL_length 10 _ (by
  have:=zz_lt64 hm
  have h1:(128:Nat) ^ 10=1180591620717411303424:=by decide
  rw [h1];omega) (by omega)
 have h1:=hn _ n.hl;have h2:=hn _ n.hs;have h3:=hn _ n.ch.ha;have h4:=hn _ n.ch.hk;have h5:=hn _ n.ch.sp.hi;have h6:=hn _ n.ch.sp.hv
 have h7:(numL n.ch.sp.tx.length).length≤10:=numL_length 10 _ (by
  have h1:(128:Nat) ^ 10=1180591620717411303424:=by decide
  rw [h1];omega) (by omega)
 have h8:(numL 7).length≤1:=numL_length 1 _ (by omega) (by omega)
 unfold msgB noteV aV iV sV
 rw [encV3]
 simp only [encVs,encV1,encV2,List.length_cons,List.length_append,List.length_nil,Nat.zero_add,Nat.reduceAdd] at h8 ⊢
 omega
theorem encR_note(n:Nt):encR (noteV n)=.tup [dBy (msgB n),dI 0]:=by
 have h1:eV (noteV n)=0:=by unfold eV;rw [if_pos (okV_noteV n),if_pos (by rw [dpV_noteV];omega)]
 unfold encR;rw [if_pos h1];rfl
def fldL (n:Nt):List Int:=[n.lang,n.seq,n.ch.at_,n.ch.kind,n.ch.sp.id,n.ch.sp.ver]
theorem LeD_slx{sz:Nat}{es es':List D}(hl:All2 LeD (D.flat es) (D.flat es')) (hlen:es.length=es'.length) (hz:∀ e∈es',e.cells.length=sz) (h1:∀ c∈D.flat es',c.one=true):LeD (.sl sz es) (.sl sz es'):=fun I w v r=>by
 cases r with
 | sl ad vs hn hc hm hA hz0 h10 hI hr =>
  refine .sl ad vs (hn.trans hlen) hc hm (hA.imp id fun e=>?_) hz h1 (fun k c hk=>?_) (fun k c hk=>?_)
  ·subst e;exact List.eq_nil_of_length_eq_zero (by rw [← hlen];rfl)
  ·obtain⟨x,hx,_⟩:=all2_get hl hk
   exact hI k x hx
  ·obtain⟨x,hx,hle⟩:=all2_get hl hk
   exact hle _ _ _ (hr k x hx)
def iN (x:Int):D:=.agg [.lit (.int .i64 1),.lit (.int .i64 x),.lit (.string ⟨#[]⟩),.nil 4]
def sN (t:List UInt8):D:=.agg [.lit (.int .i64 2),.lit (.int .i64 0),dZ t,.nil 4]
def noteN (n:Nt):D:=.agg [.lit (.int .i64 3),.lit (.int .i64 0),.lit (.string ⟨#[]⟩),.sl 4 [iN n.lang,iN n.seq,iN n.ch.at_,iN n.ch.kind,iN n.ch.sp.id,iN n.ch.sp.ver,sN n.ch.sp.tx]]
theorem noteN_le(n:Nt):LeD (noteN n) (dV (noteV n)):=by
 have e:(noteV n)=.mk 3 0 [] [iV n.lang,iV n.seq,iV n.ch.at_,iV n.ch.kind,iV n.ch.sp.id,iV n.ch.sp.ver,sV n.ch.sp.tx]:=rfl
 rw [e,dV_eq]
 refine LeD.agg (.cons (LeD.refl _) (.cons (LeD.refl _) (.cons (LeD.refl _) (.cons ?_ .nil)))) (by simp)
 have hi:∀ x:Int,dV (iV x)=.agg [dI 1,dI x,dZ [],.sl 4 []]:=fun x=>by rw [iV,dV_eq];rfl
 have hs:∀ x:List UInt8,dV (sV x)=.agg [dI 2,dI 0,dZ x,.sl 4 []]:=fun x=>by rw [sV,dV_eq];rfl
 simp only [List.map_cons,List.map_nil,hi,hs]
 have r:=LeD.refl
 refine LeD_slx ?_ rfl (by simp) (by simp [D.flat])
 simp only [D.flat,List.flatMap_cons,List.flatMap_nil,iN,sN,D.cells,List.cons_append,List.nil_append]
 exact .cons (r _) (.cons (r _) (.cons (r _) (.cons (LeD.nil 4) (.cons (r _) (.cons (r _) (.cons (r _) (.cons (LeD.nil 4) (.cons (r _) (.cons (r _) (.cons (r _) (.cons (LeD.nil 4) (.cons (r _) (.cons (r _) (.cons (r _) (.cons (LeD.nil 4) (.cons (r _) (.cons (r _) (.cons (r _) (.cons (LeD.nil 4) (.cons (r _) (.cons (r _) (.cons (r _) (.cons (LeD.nil 4) (.cons (r _) (.cons (r _) (.cons (r _) (.cons (LeD.nil 4) .nil)))))))))))))))))))))))))))
inductive C534:FuncId→List D→Out→Prop
 | enc (n:Nt) (h:n.ch.sp.tx.length≤1000000):C534 120 [noteN n] (.ret (.tup [.sl 1 ((msgB n).map dU),dI 0]))
theorem h534:∀ f ds out,C534 f ds out→PCall Tryz.prog f ds out:=by
 intro f ds out h
 cases h with
 | enc n h =>
  have:=encode (noteV n) (by rw [dpV_noteV];omega) (by have:=msgB_len' h;exact Nat.le_trans this (by omega))
  rw [encR_note] at this;exact this.le (.cons (noteN_le n) .nil)
theorem sMessage(n:Nt) (hx:n.ch.sp.tx.length≤1000000):PCall Tryz.prog 73 [dNt n] (.ret (dZ (msgB n))):=by
 refine pcall_of_vc h534 c73 (by simp [a73]) fun hr=>?_
 simp [a73]
 refine regS_path [] ?_
 simp
 refine icall_T (TF Tryz.prog a92) (hcall_of_vc c92) ?_
 simp [a92]
 refine⟨rfl,?_⟩
 refine vc_loopK [1,2,8] Nat (fun i=>[(9,true,.d (dI i)),(3,true,.own 2 4 (((fldL n).take i).map iN))]) (fun _=>[(2,.row)]) (fun i=>i≤6) (fun i=>6-i) 0 (by simp) ⟨[],[(2,4)],?_⟩ (fun i hi=>?_)
 ·simp
 simp
 refine⟨fun hlt=>?_,fun hge=>?_⟩
 ·have hw:IntKind.i64.wrap ((i:Int)+1)=((i+1:Nat):Int):=by rw [wrap64 (by omega)];omega
  have h6:i=0∨i=1∨i=2∨i=3∨i=4∨i=5:=by omega
  rcases h6 with rfl | rfl | rfl | rfl | rfl | rfl
  all_goals
   simp [fldL,iN]
  ·exact⟨1,by omega,by omega,[(2,4)],[],by simp [fldL,iN];exact LeD.refl _⟩
  ·exact⟨2,by omega,by omega,[(2,4)],[],by simp [fldL,iN];exact LeD.refl _⟩
  ·exact⟨3,by omega,by omega,[(2,4)],[],by simp [fldL,iN];exact LeD.refl _⟩
  ·exact⟨4,by omega,by omega,[(2,4)],[],by simp [fldL,iN];exact LeD.refl _⟩
  ·exact⟨5,by omega,by omega,[(2,4)],[],by simp [fldL,iN];exact LeD.refl _⟩
  ·exact⟨6,by omega,by omega,[(2,4)],[],by simp [fldL,iN];exact LeD.refl _⟩
 ·have:i=6:=by omega
  subst this
  have hE:PCall Tryz.prog 120 [noteN n] (.ret (.tup [.sl 1 ((msgB n).map dU),dI 0])):=h534 _ _ _ (.enc n hx)
  simp [fldL]
  refine vc_path [.ret (.tup [.sl 1 ((msgB n).map dU),dI 0])] ?_
  simp
  refine⟨.enc n hx,fun a _=>rfl,?_⟩
  rw [bytesOf_map];exact LeD.refl _
theorem rInt(x:Int):PCall Tryz.prog 65 [dI x] (.ret (iN x)):=by
 refine pcall_of_vc (C:=fun _ _ _=>False) (by rintro _ _ _ ⟨⟩) c65 (by simp [a65]) fun hr=>?_
 simp [a65,iN]
 try exact LeD.refl _
theorem rText(x:List UInt8):PCall Tryz.prog 66 [dZ x] (.ret (sN x)):=by
 refine pcall_of_vc (C:=fun _ _ _=>False) (by rintro _ _ _ ⟨⟩) c66 (by simp [a66]) fun hr=>?_
 simp [a66,sN]
 try exact LeD.refl _
theorem rList(n:Nt):PCall Tryz.prog 64 [.sl 4 [iN n.lang,iN n.seq,iN n.ch.at_,iN n.ch.kind,iN n.ch.sp.id,iN n.ch.sp.ver,sN n.ch.sp.tx]] (.ret (noteN n)):=by
 refine pcall_of_vc (C:=fun _ _ _=>False) (by rintro _ _ _ ⟨⟩) c64 (by simp [a64]) fun hr=>?_
 simp [a64,noteN]
 try exact LeD.refl _
inductive C534b:FuncId→List D→Out→Prop
 | int (x:Int):C534b 65 [dI x] (.ret (iN x))
 | text (x:List UInt8):C534b 66 [dZ x] (.ret (sN x))
 | list (n:Nt):C534b 64 [.sl 4 [iN n.lang,iN n.seq,iN n.ch.at_,iN n.ch.kind,iN n.ch.sp.id,iN n.ch.sp.ver,sN n.ch.sp.tx]] (.ret (noteN n))
 | enc (n:Nt) (h:n.ch.sp.tx.length≤1000000):C534b 63 [noteN n] (.ret (.tup [.sl 1 ((msgB n).map dU),dI 0]))
theorem h534b:∀ f ds out,C534b f ds out→PCall Tryz.prog f ds out:=by
 intro f ds out h
 cases h with
 | int x=>exact rInt x
 | text x=>exact rText x
 | list n=>exact rList n
 | enc n h =>
  have:=rEncode (noteV n) (by rw [dpV_noteV];omega) (by have:=msgB_len' h;exact Nat.le_trans this (by omega))
  rw [encR_note] at this;exact this.le (.cons (noteN_le n) .nil)
theorem rMessage(n:Nt) (hx:n.ch.sp.tx.length≤1000000):PCall Tryz.prog 29 [dNt n] (.ret (.sl 1 ((msgB n).map dU))):=by
 refine pcall_of_vc h534b c29 (by simp [a29]) fun hr=>?_
 simp [a29]
 refine vc_pathD [.ret (iN n.lang),.ret (iN n.seq),.ret (iN n.ch.at_),.ret (iN n.ch.kind),.ret (iN n.ch.sp.id),.ret (iN n.ch.sp.ver),.ret (sN n.ch.sp.tx),.ret (noteN n),.ret (.tup [.sl 1 ((msgB n).map dU),dI 0])] ?_
 simp [iN,sN,noteN]
 refine⟨.int _,.int _,.int _,.int _,.int _,.int _,.text _,.list n,.enc n hx,?_⟩
 rfl
end

section
attribute [local simp] dZ_agg dZ_nt dZ_noTup dZ_cells dZ_one bz_toList bz_size strV dSp_cells dSp_isAgg dSp_noTup dSp_nt dCh_cells dCh_isAgg dCh_noTup dCh_nt dNt_cells dNt_isAgg dNt_noTup dNt_nt dPe_cells dPe_isAgg dPe_noTup dPe_nt
set_option maxRecDepth 8000
set_option maxHeartbeats 4000000
inductive C535:FuncId→List D→Out→Prop
 | msg (n:Nt) (h:n.ch.sp.tx.length≤1000000):C535 73 [dNt n] (.ret (dZ (msgB n)))
 | rmsg (n:Nt) (h:n.ch.sp.tx.length≤1000000):C535 29 [dNt n] (.ret (.sl 1 ((msgB n).map dU)))
 | cmp (a b:List UInt8):C535 128 [dZ a,dZ b] (.ret (dI (cmpT a b)))
theorem h535:∀ f ds out,C535 f ds out→PCall Tryz.prog f ds out:=by
 intro f ds out h
 cases h with
 | msg n h=>exact sMessage n h
 | rmsg n h=>exact rMessage n h
 | cmp a b=>exact sCompare a b
theorem sCmpN(a b:Nt) (ha:a.ch.sp.tx.length≤1000000) (hb:b.ch.sp.tx.length≤1000000):PCall Tryz.prog 90 [dNt a,dNt b] (.ret (dI (cmpT (msgB a) (msgB b)))):=by
 refine pcall_of_vc h535 c90 (by simp [a90]) fun hr=>?_
 simp [a90]
 refine vc_pathD [.ret (dZ (msgB a)),.ret (dZ (msgB b)),.ret (dI (cmpT (msgB a) (msgB b)))] ?_
 simp
 exact⟨.msg a ha,.msg b hb,.cmp _ _,rfl⟩
theorem rBefore(a b:Nt) (ha:a.ch.sp.tx.length≤1000000) (hb:b.ch.sp.tx.length≤1000000):PCall Tryz.prog 56 [dNt a,dNt b] (.ret (dB (bLt (msgB a) (msgB b)))):=by
 refine pcall_of_vc h535 c56 (by simp [a56]) fun hr=>?_
 simp [a56]
 refine vc_pathD [.ret (.sl 1 ((msgB a).map dU)),.ret (.sl 1 ((msgB b).map dU))] ?_
 simp [bytesOf_map]
 refine⟨.rmsg a ha,fun _ _=>rfl,.rmsg b hb,fun _ _=>rfl,rfl⟩
inductive C535b:FuncId→List D→Out→Prop
 | cmp (a b:Nt) (ha:a.ch.sp.tx.length≤1000000) (hb:b.ch.sp.tx.length≤1000000):C535b 90 [dNt a,dNt b] (.ret (dI (cmpT (msgB a) (msgB b))))
 | bef (a b:Nt) (ha:a.ch.sp.tx.length≤1000000) (hb:b.ch.sp.tx.length≤1000000):C535b 56 [dNt a,dNt b] (.ret (dB (bLt (msgB a) (msgB b))))
 | formed (n:Nt):C535b 69 [dNt n] (.ret (dB (okNt n)))
 | rformed (n:Nt):C535b 55 [dNt n] (.ret (dB (okNt n)))
theorem h535b:∀ f ds out,C535b f ds out→PCall Tryz.prog f ds out:=by
 intro f ds out h
 cases h with
 | cmp a b ha hb=>exact sCmpN a b ha hb
 | bef a b ha hb=>exact rBefore a b ha hb
 | formed n=>exact sFormed n
 | rformed n=>exact rFormed n
def lastN (l:List Nt) (k:Nat):Option (List UInt8):=if k=0 then none else (l[k-1]?).map msgB
theorem lastN_s{l:List Nt}{k:Nat}(h:k<l.length):lastN l (k+1)=some (msgB l[k]):=by
 unfold lastN;rw [if_neg (by omega)];simp [h]
def ltO (o:Option (List UInt8)) (b:List UInt8):Bool:=match o with | none=>true | some a=>bLt a b
theorem okNs_cons(o:Option (List UInt8)) (n:Nt) (r:List Nt):okNs o (n::r)=(okNt n&&(ltO o (msgB n)&&okNs (some (msgB n)) r)):=by cases o <;> rfl
theorem okNs_step{l:List Nt}{k:Nat}(h:k<l.length) (hk:okNt l[k]=true):okNs (lastN l k) (l.drop k)=(ltO (lastN l k) (msgB l[k])&&okNs (lastN l (k+1)) (l.drop (k+1))):=by
 rw [List.drop_eq_getElem_cons h,okNs_cons,hk,lastN_s h];rfl
theorem okNs_stop{l:List Nt}{k:Nat}(h:k<l.length) (hk:okNt l[k]=false):okNs (lastN l k) (l.drop k)=false:=by
 rw [List.drop_eq_getElem_cons h,okNs_cons,hk];rfl
theorem lastN_z(l:List Nt):lastN l 0=none:=rfl
theorem sValid(l:List Nt):PCall Tryz.prog 46 [dPe l] (.ret (dB (okPe l))):=by
 refine pcall_of_vc h535b c46 (by simp [a46]) fun hr=>?_
 have hlen:=((hr (dPe l) (by simp)).agg (.sl 7 (l.map dNt)) (by simp [dPe])).2.sl.1
 simp at hlen
 simp [a46]
 unfold okPe
 refine vc_loopK [0,1,2,6,7] Nat (fun y=>[(8,true,.d (dI y))]) (fun y=>[]) (fun y=>y≤l.length∧okNs (lastN l y) (l.drop y)=okNs none l∧∀ n∈l.take y,okNt n=true) (fun y=>l.length-y) 0 (by simp [lastN_z]) ⟨[],[],?_⟩ (fun k hk=>?_)
 ·simp [lastN_z]
 obtain⟨h1,h2,h3⟩:=hk
 simp
 refine⟨fun hlt=>?_,fun hge=>?_⟩
 ·simp [hlt]
  have hf:=C535b.formed l[k]
  cases hp:okNt l[k] with
  | false =>
   refine vc_pathD [.ret (dB false),.ret (dI 0)] ?_
   rw [okNs_stop hlt hp] at h2
   rw [hp] at hf
   simp [hlt] at hf ⊢
   exact⟨hf,rfl,leD_of_eq (by simp [← h2])⟩
  | true =>
   rw [okNs_step hlt hp] at h2
   rw [hp] at hf
   have h3':∀ n∈l.take (k+1),okNt n=true:=fun n hn=>by
    rw [List.take_succ_eq_append_getElem hlt,List.mem_append,List.mem_singleton] at hn
    rcases hn with hn | rfl
    ·exact h3 n hn
    ·exact hp
   cases k with
   | zero =>
    refine vc_pathD [.ret (dB true),.ret (dI 0)] ?_
    simp [hlt] at hf ⊢
    refine⟨hf,rfl,1,⟨by omega,?_,h3'⟩,by omega,[],[],?_⟩
    ·rw [← h2];simp [lastN_z,ltO]
    ·rw [wrap64 (by omega)];simp
   | succ k =>
    have hk':k<l.length:=by omega
    have hw:IntKind.i64.wrap (k:Int)=k:=wrap64 (by omega)
    rw [lastN_s hk'] at h2
    have hpk:okNt l[k]=true:=h3 _ (by
     rw [List.take_succ_eq_append_getElem hk',List.mem_append,List.mem_singleton];exact .inr rfl)
    have hc:=C535b.cmp l[k] l[k+1] (by have:=okNt_tx hpk;omega) (by have:=okNt_tx hp;omega)
    have hb1:(0:Int)≤(k:Int)+1:=by omega
    have hb2:(k:Int)+1<(l.length:Int):=by omega
    refine vc_pathD [.ret (dB true),.ret (dI (cmpT (msgB l[k]) (msgB l[k+1])))] ?_
    by_cases q5:cmpT (msgB l[k]) (msgB l[k+1])<0
    ·have q5':¬ 0≤cmpT (msgB l[k]) (msgB l[k+1]):=by omega
     have q6:=(cmpT_lt _ _).1 q5
     simp [hlt,hk',hw,q5',hb1,hb2] at hf hc ⊢
     refine⟨hf,hc,rfl,k+2,⟨by omega,?_,h3'⟩,by omega,[],[],?_⟩
     ·rw [← h2];simp [ltO,q6]
     ·rw [wrap64 (by omega)];simp
      exact leD_of_eq (by congr 2)
    ·have q5':0≤cmpT (msgB l[k]) (msgB l[k+1]):=by omega
     have q6:bLt (msgB l[k]) (msgB l[k+1])=false:=by
      rw [← Bool.not_eq_true];exact fun h=>q5 ((cmpT_lt _ _).2 h)
     simp [hlt,hk',hw,q5',hb1,hb2] at hf hc ⊢
     refine⟨hf,hc,rfl,leD_of_eq ?_⟩
     simp [← h2,ltO,q6]
 ·have:k=l.length:=by omega
  subst this
  rw [List.drop_length] at h2
  rw [← h2]
  refine leD_of_eq ?_
  simp [okNs]
  omega
theorem rValid(l:List Nt):PCall Tryz.prog 26 [dPe l] (.ret (dB (okPe l))):=by
 refine pcall_of_vc h535b c26 (by simp [a26]) fun hr=>?_
 have hlen:=((hr (dPe l) (by simp)).agg (.sl 7 (l.map dNt)) (by simp [dPe])).2.sl.1
 simp at hlen
 simp [a26]
 unfold okPe
 refine vc_loopK [0,1,2] Nat (fun y=>[(3,true,.d (dI y))]) (fun y=>[]) (fun y=>y≤l.length∧okNs (lastN l y) (l.drop y)=okNs none l∧∀ n∈l.take y,okNt n=true) (fun y=>l.length-y) 0 (by simp [lastN_z]) ⟨[],[],?_⟩ (fun k hk=>?_)
 ·simp [lastN_z]
 obtain⟨h1,h2,h3⟩:=hk
 simp
 refine⟨fun hlt=>?_,fun hge=>?_⟩
 ·have hf:=C535b.rformed l[k]
  cases hp:okNt l[k] with
  | false =>
   refine vc_pathD [.ret (dB false),.ret (dB false)] ?_
   rw [okNs_stop hlt hp] at h2
   rw [hp] at hf
   simp [hlt] at hf ⊢
   exact⟨hf,rfl,leD_of_eq (by simp [← h2])⟩
  | true =>
   rw [okNs_step hlt hp] at h2
   rw [hp] at hf
   have h3':∀ n∈l.take (k+1),okNt n=true:=fun n hn=>by
    rw [List.take_succ_eq_append_getElem hlt,List.mem_append,List.mem_singleton] at hn
    rcases hn with hn | rfl
    ·exact h3 n hn
    ·exact hp
   cases k with
   | zero =>
    refine vc_pathD [.ret (dB true),.ret (dB false)] ?_
    simp [hlt] at hf ⊢
    refine⟨hf,rfl,1,⟨by omega,?_,h3'⟩,by omega,[],[],?_⟩
    ·rw [← h2];simp [lastN_z,ltO]
    ·rw [wrap64 (by omega)];simp
   | succ k =>
    have hk':k<l.length:=by omega
    have hw:IntKind.i64.wrap (k:Int)=k:=wrap64 (by omega)
    rw [lastN_s hk'] at h2
    have hpk:okNt l[k]=true:=h3 _ (by
     rw [List.take_succ_eq_append_getElem hk',List.mem_append,List.mem_singleton];exact .inr rfl)
    have hc:=C535b.bef l[k] l[k+1] (by have:=okNt_tx hpk;omega) (by have:=okNt_tx hp;omega)
    have hb1:(0:Int)≤(k:Int)+1:=by omega
    have hb2:(k:Int)+1<(l.length:Int):=by omega
    refine vc_pathD [.ret (dB true),.ret (dB (bLt (msgB l[k]) (msgB l[k+1])))] ?_
    cases q5:bLt (msgB l[k]) (msgB l[k+1]) with
    | true =>
     rw [q5] at hc
     simp [hlt,hk',hw,hb1,hb2] at hf hc ⊢
     refine⟨hf,hc,rfl,k+2,⟨by omega,?_,h3'⟩,by omega,[],[],?_⟩
     ·rw [← h2];simp [ltO,q5]
     ·rw [wrap64 (by omega)];simp
      exact leD_of_eq (by congr 2)
    | false =>
     rw [q5] at hc
     simp [hlt,hk',hw,hb1,hb2] at hf hc ⊢
     refine⟨hf,hc,rfl,leD_of_eq ?_⟩
     simp [← h2,ltO,q5]
 ·have:k=l.length:=by omega
  subst this
  rw [List.drop_length] at h2
  rw [← h2]
  refine leD_of_eq ?_
  simp [okNs]
  omega
end

section
def rngI (n:Int):Prop:=-9223372036854775808≤n∧n<9223372036854775808
theorem Vl.eta(v:Vl):.mk v.k v.n v.s v.l=v:=by cases v;rfl
theorem pVs_mem{p:List UInt8→Option (Vl×List UInt8)}{P:Vl→Prop}(hp:∀ b v r,p b=some (v,r)→P v):∀ (n:Nat) (b:List UInt8) (l:List Vl) (r:List UInt8),pVs p n b=some (l,r)→∀ v∈l,P v
 | 0,b,l,r,h,v,hv=>by
  simp only [pVs,Option.some.injEq,Prod.mk.injEq] at h
  obtain⟨rfl,rfl⟩:=h
  cases hv
 | n+1,b,l,r,h,v,hv=>by
  rw [pVs] at h
  cases hx:p b with
  | none=>rw [hx] at h;cases h
  | some x =>
   obtain⟨v1,r1⟩:=x
   rw [hx,Option.bind_some] at h
   cases hy:pVs p n r1 with
   | none=>rw [hy] at h;cases h
   | some y =>
    obtain⟨l1,r2⟩:=y
    rw [hy] at h
    simp only [Option.map_some,Option.some.injEq,Prod.mk.injEq] at h
    obtain⟨rfl,rfl⟩:=h
    rcases List.mem_cons.1 hv with rfl | hv
    ·exact hp _ _ _ hx
    ·exact pVs_mem hp n r1 l1 _ hy v hv
theorem pV1_rng{deep:Option (List UInt8→Option (Vl×List UInt8))}(hp:∀ p,deep=some p→∀ b v r,p b=some (v,r)→rngI v.n) (b:List UInt8) (v:Vl) (r:List UInt8) (h:pV1 deep b=some (v,r)):rngI v.n∧∀ x∈v.l,rngI x.n:=by
 cases b with
 | nil=>simp [pV1] at h
 | cons k b =>
  rw [pV1] at h
  split at h
  ·cases hx:pNum 0 b with
   | none=>rw [hx] at h;cases h
   | some x =>
    obtain⟨u,r1⟩:=x
    rw [hx] at h
    simp only [Option.map_some,Option.some.injEq,Prod.mk.injEq] at h
    obtain⟨rfl,rfl⟩:=h
    obtain⟨_,_,e3⟩:=pNum_sound b 0 u r1 (by omega) hx
    exact⟨sgn_b (by simpa using e3),fun x hx=>by cases hx⟩
  split at h
  ·cases hx:pNum 0 b with
   | none=>rw [hx] at h;cases h
   | some x =>
    obtain⟨u,r1⟩:=x
    rw [hx,Option.bind_some] at h
    simp only at h
    split at h
    ·simp only [Option.some.injEq,Prod.mk.injEq] at h
     obtain⟨rfl,rfl⟩:=h
     exact⟨⟨by simp [Vl.n],by simp [Vl.n]⟩,fun x hx=>by cases hx⟩
    ·cases h
  split at h
  ·cases hd:deep with
   | none=>rw [hd] at h;cases h
   | some p =>
    rw [hd,Option.bind_some] at h
    cases hx:pNum 0 b with
    | none=>rw [hx] at h;cases h
    | some x =>
     obtain⟨u,r1⟩:=x
     rw [hx,Option.bind_some] at h
     simp only at h
     split at h
     ·cases hy:pVs p u r1 with
      | none=>rw [hy] at h;cases h
      | some y =>
       obtain⟨l1,r2⟩:=y
       rw [hy] at h
       simp only [Option.map_some,Option.some.injEq,Prod.mk.injEq] at h
       obtain⟨rfl,rfl⟩:=h
       exact⟨⟨by simp [Vl.n],by simp [Vl.n]⟩,fun x hx=>pVs_mem (hp p hd) u r1 l1 _ hy x hx⟩
     ·cases h
  ·cases h
theorem pV_rng:∀ (d:Nat) (b:List UInt8) (v:Vl) (r:List UInt8),pV d b=some (v,r)→rngI v.n∧∀ x∈v.l,rngI x.n
 | 0,b,v,r,h=>pV1_rng (fun p hp=>by cases hp) b v r h
 | d+1,b,v,r,h=>pV1_rng (fun p hp=>by
   injection hp with hp;subst hp
   exact fun b v r h=>(pV_rng d b v r h).1) b v r h
theorem decV_rng{b:List UInt8}{v:Vl}(h:decV b=some v):rngI v.n∧∀ x∈v.l,rngI x.n:=by
 unfold decV at h
 split at h
 ·rename_i hp;injection h with h;subst h;exact pV_rng 16 b _ _ hp
 ·cases h
def noteV7 (v0 v1 v2 v3 v4 v5 v6:Vl) (h0:rngI v0.n) (h1:rngI v1.n) (h2:rngI v2.n) (h3:rngI v3.n) (h4:rngI v4.n) (h5:rngI v5.n):Nt:=⟨v0.n,v1.n,⟨v2.n,v3.n,⟨v4.n,v5.n,v6.s,h4,h5⟩,h2,h3⟩,h0,h1⟩
theorem noteOf7(k n:Int) (s:List UInt8) (v0 v1 v2 v3 v4 v5 v6:Vl) (h0:rngI v0.n) (h1:rngI v1.n) (h2:rngI v2.n) (h3:rngI v3.n) (h4:rngI v4.n) (h5:rngI v5.n):noteOf (.mk k n s [v0,v1,v2,v3,v4,v5,v6])=if k=3∧v0.k=1∧v1.k=1∧v2.k=1∧v3.k=1∧v4.k=1∧v5.k=1∧v6.k=2 then some (noteV7 v0 v1 v2 v3 v4 v5 v6 h0 h1 h2 h3 h4 h5) else none:=by
 cases v0;cases v1;cases v2;cases v3;cases v4;cases v5;cases v6
 rw [noteOf]
 split
 ·rename_i h;exact(if_pos h.1).symm
 ·rename_i h;exact(if_neg fun h'=>h ⟨h',h0,h1,h2,h3,h4,h5⟩).symm
theorem noteOf_ne{v:Vl}(h:v.l.length≠7):noteOf v=none:=by
 cases v with
 | mk k n s l =>
  unfold noteOf
  split
  ·rename_i e;injection e with _ _ _ e;subst e;exact absurd rfl h
  ·rfl
def gI (c:Bool) (x:Int):Int:=if c then x else 0
theorem gI_r{x:Int}(c:Bool) (h:rngI x):rngI (gI c x):=by unfold gI;split;exact h;exact⟨by omega,by omega⟩
def noteQ (v0 v1 v2 v3 v4 v5 v6:Vl) (h0:rngI v0.n) (h1:rngI v1.n) (h2:rngI v2.n) (h3:rngI v3.n) (h4:rngI v4.n) (h5:rngI v5.n):Nt :=
 ⟨gI (decide (v0.k=1)) v0.n,gI (decide (v0.k=1∧v1.k=1)) v1.n,⟨gI (decide (v0.k=1∧v1.k=1∧v2.k=1)) v2.n,gI (decide (v0.k=1∧v1.k=1∧v2.k=1∧v3.k=1)) v3.n,
  ⟨gI (decide (v0.k=1∧v1.k=1∧v2.k=1∧v3.k=1∧v4.k=1)) v4.n,gI (decide (v0.k=1∧v1.k=1∧v2.k=1∧v3.k=1∧v4.k=1∧v5.k=1)) v5.n,
   if v0.k=1∧v1.k=1∧v2.k=1∧v3.k=1∧v4.k=1∧v5.k=1 then v6.s else [],gI_r _ h4,gI_r _ h5⟩,gI_r _ h2,gI_r _ h3⟩,gI_r _ h0,gI_r _ h1⟩
def zNt:Nt:=⟨0,0,⟨0,0,⟨0,0,[],by omega,by omega⟩,by omega,by omega⟩,by omega,by omega⟩
theorem readB_of{b:List UInt8}{k n:Int}{s:List UInt8}{v0 v1 v2 v3 v4 v5 v6:Vl}(hd:decE b=0) (he:decL b=.mk k n s [v0,v1,v2,v3,v4,v5,v6]):∃ (h0:rngI v0.n) (h1:rngI v1.n) (h2:rngI v2.n) (h3:rngI v3.n) (h4:rngI v4.n) (h5:rngI v5.n),readB b=if k=3∧v0.k=1∧v1.k=1∧v2.k=1∧v3.k=1∧v4.k=1∧v5.k=1∧v6.k=2 then (if okNt (noteV7 v0 v1 v2 v3 v4 v5 v6 h0 h1 h2 h3 h4 h5) then some (noteV7 v0 v1 v2 v3 v4 v5 v6 h0 h1 h2 h3 h4 h5) else none) else none:=by
 unfold decE at hd
 cases hx:decV b with
 | none=>rw [hx] at hd;simp at hd
 | some v =>
  unfold decL at he
  rw [hx] at he
  simp only [Option.getD_some] at he
  subst he
  have hr:=(decV_rng hx).2
  simp only [Vl.l,List.mem_cons,List.not_mem_nil,or_false,forall_eq_or_imp,forall_eq] at hr
  obtain⟨h0,h1,h2,h3,h4,h5,_⟩:=hr
  refine⟨h0,h1,h2,h3,h4,h5,?_⟩
  unfold readB
  rw [hx,Option.bind_some,noteOf7 k n s v0 v1 v2 v3 v4 v5 v6 h0 h1 h2 h3 h4 h5]
  split <;> rfl
theorem readB_no{b:List UInt8}(h:decE b≠0∨(decL b).l.length≠7∨(decL b).k≠3):readB b=none:=by
 unfold decE decL at h
 unfold readB
 cases hx:decV b with
 | none=>rfl
 | some v =>
  rw [hx] at h
  simp only [Option.isSome_some,if_true,ne_eq,not_true_eq_false,false_or,Option.getD_some] at h
  rw [Option.bind_some]
  rcases h with h | h
  ·rw [noteOf_ne h];rfl
  ·by_cases hl:v.l.length=7
   ·have:noteOf v=none:=by
     cases v with
     | mk k n s l =>
      unfold noteOf
      split
      ·rename_i e;injection e with e1 _ _ e;subst e;subst e1
       exact dif_neg fun h'=>h h'.1.1
      ·rfl
    rw [this];rfl
   ·rw [noteOf_ne hl];rfl
theorem list7{l:List Vl}(h:l.length=7):∃ v0 v1 v2 v3 v4 v5 v6,l=[v0,v1,v2,v3,v4,v5,v6]:=by
 match l,h with
 | [v0,v1,v2,v3,v4,v5,v6],_=>exact⟨v0,v1,v2,v3,v4,v5,v6,rfl⟩
theorem dV_eta(v:Vl):dV v=.agg [dI v.k,dI v.n,dZ v.s,.sl 4 (v.l.map dV)]:=by
 conv=>lhs;rw [← Vl.eta v,dV_eq]
end

section
attribute [local simp] dZ_agg dZ_nt dZ_noTup dZ_cells dZ_one bz_toList bz_size strV dV_cells dV_isAgg dV_noTup dV_nt dSp_cells dSp_isAgg dSp_noTup dSp_nt dCh_cells dCh_isAgg dCh_noTup dCh_nt dNt_cells dNt_isAgg dNt_noTup dNt_nt
set_option maxRecDepth 8000
set_option maxHeartbeats 4000000
inductive C537:FuncId→List D→Out→Prop
 | dec (b:List UInt8) (h:b.length≤1099511627776):C537 91 [.sl 1 (b.map dU)] (.ret (.tup [dV (decL b),dI (decE b)]))
 | rdec (b:List UInt8) (h:b.length≤1099511627776):C537 95 [.sl 1 (b.map dU)] (.ret (.tup [dV (decL b),dI (decE b)]))
 | formed (n:Nt):C537 69 [dNt n] (.ret (dB (okNt n)))
 | rformed (n:Nt):C537 55 [dNt n] (.ret (dB (okNt n)))
theorem h537:∀ f ds out,C537 f ds out→PCall Tryz.prog f ds out:=by
 intro f ds out h
 cases h with
 | dec b h=>exact decode b h
 | rdec b h=>exact rDecode b h
 | formed n=>exact sFormed n
 | rformed n=>exact rFormed n
theorem sRead(b:List UInt8) (hb:b.length≤1099511627776):∃ n,PCall Tryz.prog 47 [.sl 1 (b.map dU)] (.ret (.tup [dNt n,dB (readB b).isSome]))∧∀ m,readB b=some m→n=m:=by
 have hD:=C537.dec b hb
 by_cases hA:decE b=0∧(decL b).k=3∧(decL b).l.length=7
 ·obtain⟨e1,e2,e3⟩:=hA
  generalize hv:decL b=v at *
  cases v with
  | mk k n s l =>
  simp only [Vl.k,Vl.l] at e2 e3
  obtain⟨v0,v1,v2,v3,v4,v5,v6,rfl⟩:=list7 e3
  obtain⟨h0,h1,h2,h3,h4,h5,hR⟩:=readB_of e1 hv
  by_cases e4:v6.k=2
  ·refine⟨noteQ v0 v1 v2 v3 v4 v5 v6 h0 h1 h2 h3 h4 h5,?_,fun m hm=>?_⟩
   ·refine pcall_of_vc h537 c47 (by simp [a47]) fun hr=>?_
    simp [a47]
    refine vc_path [.ret (.tup [dV (.mk k n s [v0,v1,v2,v3,v4,v5,v6]),dI (decE b)])] ?_
    rw [dV_eq] at hD ⊢
    simp
    refine⟨by simpa using hD,?_⟩
    refine regS_path [] ?_
    simp
    refine icall_T (TF Tryz.prog a92) (hcall_of_vc c92) ?_
    simp [a92]
    refine⟨rfl,?_⟩
    refine vc_path [] ?_
    simp [e1,e2,e4,dV_eta]
    refine vc_loopK [2,4,37] Nat (fun i=>[(38,true,.d (dI i))]) (fun i=>[(0,.box true [.d (dI (if 0<i then v0.n else 0)),.d (dI (if 1<i then v1.n else 0)),.d (dI (if 2<i then v2.n else 0)),.d (dI (if 3<i then v3.n else 0)),.d (dI (if 4<i then v4.n else 0)),.d (dI (if 5<i then v5.n else 0)),.d (dZ [])])]) (fun i=>i≤6∧(0<i→v0.k=1)∧(1<i→v1.k=1)∧(2<i→v2.k=1)∧(3<i→v3.k=1)∧(4<i→v4.k=1)∧(5<i→v5.k=1)) (fun i=>6-i) 0 (by simp) ⟨[],[],?_⟩ (fun i hi=>?_)
    ·simp
     exact LeD.refl _
    obtain⟨hi,g0,g1,g2,g3,g4,g5⟩:=hi
    simp
    refine⟨fun hlt=>?_,fun hge=>?_⟩
    ·have h6:i=0∨i=1∨i=2∨i=3∨i=4∨i=5:=by omega
     rcases h6 with rfl | rfl | rfl | rfl | rfl | rfl
     ·simp at g0 g1 g2 g3 g4 g5
      simp [dV_eta,e2,e4,hR]
      exact⟨fun q=>⟨leD_of_eq (by simp [dNt,noteQ,gI,q]),leD_of_eq (by simp [q])⟩,fun q=>⟨1,by simp [q],by simp,[],[],by simp [q,wrap64];try exact LeD.refl _⟩⟩
     ·simp at g0 g1 g2 g3 g4 g5
      simp [dV_eta,e2,e4,hR,g0]
      exact⟨fun q=>⟨leD_of_eq (by simp [dNt,noteQ,gI,q,g0]),leD_of_eq (by simp [q])⟩,fun q=>⟨2,by simp [q,g0],by simp,[],[],by simp [q,g0,wrap64];try exact LeD.refl _⟩⟩
     ·simp at g0 g1 g2 g3 g4 g5
      simp [dV_eta,e2,e4,hR,g0,g1]
      exact⟨fun q=>⟨leD_of_eq (by simp [dNt,noteQ,gI,q,g0,g1]),leD_of_eq (by simp [q])⟩,fun q=>⟨3,by simp [q,g0,g1],by simp,[],[],by simp [q,g0,g1,wrap64];try exact LeD.refl _⟩⟩
     ·simp at g0 g1 g2 g3 g4 g5
      simp [dV_eta,e2,e4,hR,g0,g1,g2]
      exact⟨fun q=>⟨leD_of_eq (by simp [dNt,noteQ,gI,q,g0,g1,g2]),leD_of_eq (by simp [q])⟩,fun q=>⟨4,by simp [q,g0,g1,g2],by simp,[],[],by simp [q,g0,g1,g2,wrap64];try exact LeD.refl _⟩⟩
     ·simp at g0 g1 g2 g3 g4 g5
      simp [dV_eta,e2,e4,hR,g0,g1,g2,g3]
      exact⟨fun q=>⟨leD_of_eq (by simp [dNt,noteQ,gI,q,g0,g1,g2,g3]),leD_of_eq (by simp [q])⟩,fun q=>⟨5,by simp [q,g0,g1,g2,g3],by simp,[],[],by simp [q,g0,g1,g2,g3,wrap64];try exact LeD.refl _⟩⟩
     ·simp at g0 g1 g2 g3 g4 g5
      simp [dV_eta,e2,e4,hR,g0,g1,g2,g3,g4]
      exact⟨fun q=>⟨leD_of_eq (by simp [dNt,noteQ,gI,q,g0,g1,g2,g3,g4]),leD_of_eq (by simp [q])⟩,fun q=>⟨6,by simp [q,g0,g1,g2,g3,g4],by simp,[],[],by simp [q,g0,g1,g2,g3,g4,wrap64];try exact LeD.refl _⟩⟩
    ·have:i=6:=by omega
     subst this
     simp at g0 g1 g2 g3 g4 g5
     simp [dV_eta,e2,e4,hR,g0,g1,g2,g3,g4,g5]
     refine vc_pathD [.ret (dB (okNt (noteV7 v0 v1 v2 v3 v4 v5 v6 h0 h1 h2 h3 h4 h5)))] ?_
     simp
     refine⟨.formed (noteV7 v0 v1 v2 v3 v4 v5 v6 h0 h1 h2 h3 h4 h5),rfl,leD_of_eq (by simp [dNt,noteQ,gI,g0,g1,g2,g3,g4,g5]),leD_of_eq (by split <;> simp [*])⟩
   ·rw [hR] at hm
    split at hm
    ·rename_i hc
     obtain⟨_,c0,c1,c2,c3,c4,c5,_⟩:=hc
     split at hm
     ·injection hm with hm;subst hm
      simp [noteQ,noteV7,gI,c0,c1,c2,c3,c4,c5]
     ·cases hm
    ·cases hm
  ·have hn:readB b=none:=by rw [hR,if_neg fun h=>e4 h.2.2.2.2.2.2.2]
   refine⟨zNt,?_,fun m hm=>by rw [hn] at hm;cases hm⟩
   rw [hn]
   refine pcall_of_vc h537 c47 (by simp [a47]) fun hr=>?_
   simp [a47]
   refine vc_path [.ret (.tup [dV (.mk k n s [v0,v1,v2,v3,v4,v5,v6]),dI (decE b)])] ?_
   rw [dV_eq] at hD ⊢
   simp
   refine⟨by simpa using hD,?_⟩
   refine regS_path [] ?_
   simp
   refine icall_T (TF Tryz.prog a92) (hcall_of_vc c92) ?_
   simp [a92]
   refine⟨rfl,?_⟩
   refine vc_path [] ?_
   simp [e1,e2,e4,dV_eta]
   exact leD_of_eq rfl
 ·have hn:readB b=none:=readB_no (by
   by_cases q1:decE b=0
   ·by_cases q2:(decL b).k=3
    ·exact .inr (.inl fun q3=>hA ⟨q1,q2,q3⟩)
    ·exact .inr (.inr q2)
   ·exact .inl q1)
  refine⟨zNt,?_,fun m hm=>by rw [hn] at hm;cases hm⟩
  rw [hn]
  generalize hv:decL b=v at *
  cases v with
  | mk k n s l =>
  simp only [Vl.k,Vl.l] at hA
  refine pcall_of_vc h537 c47 (by simp [a47]) fun hr=>?_
  simp [a47]
  refine vc_path [.ret (.tup [dV (.mk k n s l),dI (decE b)])] ?_
  rw [dV_eq] at hD ⊢
  simp
  refine⟨by simpa using hD,?_⟩
  refine regS_path [] ?_
  simp
  refine icall_T (TF Tryz.prog a92) (hcall_of_vc c92) ?_
  simp [a92]
  refine⟨rfl,?_⟩
  refine vc_path [] ?_
  by_cases q1:decE b=0
  ·by_cases q2:k=3
   ·have q3:¬ (l.length:Int)=7:=fun h=>hA ⟨q1,q2,by omega⟩
    have q3':¬ l.length=7:=by omega
    simp [q1,q2,q3,q3']
    exact leD_of_eq rfl
   ·simp [q1,q2]
    exact leD_of_eq rfl
  ·simp [q1]
   exact leD_of_eq rfl
theorem rRead(b:List UInt8) (hb:b.length≤1099511627776):∃ n,PCall Tryz.prog 49 [.sl 1 (b.map dU)] (.ret (.tup [dNt n,dB (readB b).isSome]))∧∀ m,readB b=some m→n=m:=by
 have hD:=C537.rdec b hb
 by_cases hA:decE b=0∧(decL b).k=3∧(decL b).l.length=7
 ·obtain⟨e1,e2,e3⟩:=hA
  generalize hv:decL b=v at *
  cases v with
  | mk k n s l =>
  simp only [Vl.k,Vl.l] at e2 e3
  obtain⟨v0,v1,v2,v3,v4,v5,v6,rfl⟩:=list7 e3
  obtain⟨h0,h1,h2,h3,h4,h5,hR⟩:=readB_of e1 hv
  by_cases e4:v6.k=2
  ·by_cases hK:v0.k=1∧v1.k=1∧v2.k=1∧v3.k=1∧v4.k=1∧v5.k=1
   ·obtain⟨g0,g1,g2,g3,g4,g5⟩:=hK
    refine⟨noteV7 v0 v1 v2 v3 v4 v5 v6 h0 h1 h2 h3 h4 h5,?_,fun m hm=>?_⟩
    ·simp [e2,e4,g0,g1,g2,g3,g4,g5] at hR
     have hF:=C537.rformed (noteV7 v0 v1 v2 v3 v4 v5 v6 h0 h1 h2 h3 h4 h5)
     refine pcall_of_vc h537 c49 (by simp [a49]) fun hr=>?_
     simp [a49]
     refine vc_path [.ret (.tup [dV (.mk k n s [v0,v1,v2,v3,v4,v5,v6]),dI (decE b)])] ?_
     rw [dV_eq] at hD ⊢
     simp
     refine⟨by simpa using hD,?_⟩
     refine vc_path [] ?_
     simp [e1,e2,e4,dV_eta]
     refine vc_loopK [2,4] Nat (fun i=>[(7,true,.d (dI i)),(6,true,.own 2 1 (([v0.n,v1.n,v2.n,v3.n,v4.n,v5.n].take i).map dI))]) (fun _=>[(2,.row)]) (fun i=>i≤6) (fun i=>6-i) 0 (by simp) ⟨[],[],?_⟩ (fun i hi=>?_)
     ·simp
     simp
     refine⟨fun hlt=>?_,fun hge=>?_⟩
     ·have h6:i=0∨i=1∨i=2∨i=3∨i=4∨i=5:=by omega
      rcases h6 with rfl | rfl | rfl | rfl | rfl | rfl
      ·simp [dV_eta,g0,g1,g2,g3,g4,g5]
       exact⟨1,by omega,by omega,[(2,4)],[],by simp [wrap64];try exact LeD.refl _⟩
      ·simp [dV_eta,g0,g1,g2,g3,g4,g5]
       exact⟨2,by omega,by omega,[(2,4)],[],by simp [wrap64];try exact LeD.refl _⟩
      ·simp [dV_eta,g0,g1,g2,g3,g4,g5]
       exact⟨3,by omega,by omega,[(2,4)],[],by simp [wrap64];try exact LeD.refl _⟩
      ·simp [dV_eta,g0,g1,g2,g3,g4,g5]
       exact⟨4,by omega,by omega,[(2,4)],[],by simp [wrap64];try exact LeD.refl _⟩
      ·simp [dV_eta,g0,g1,g2,g3,g4,g5]
       exact⟨5,by omega,by omega,[(2,4)],[],by simp [wrap64];try exact LeD.refl _⟩
      ·simp [dV_eta,g0,g1,g2,g3,g4,g5]
       exact⟨6,by omega,by omega,[(2,4)],[],by simp [wrap64];try exact LeD.refl _⟩
     ·have:i=6:=by omega
      subst this
      simp [dV_eta,e2,e4]
      refine⟨rfl,rfl,?_⟩
      refine vc_pathD [.ret (dB (okNt (noteV7 v0 v1 v2 v3 v4 v5 v6 h0 h1 h2 h3 h4 h5)))] ?_
      simp
      refine⟨hF,rfl,leD_of_eq rfl,leD_of_eq ?_⟩
      rw [hR];split <;> simp [*]
    ·simp [e2,e4,g0,g1,g2,g3,g4,g5] at hR
     rw [hR] at hm
     split at hm
     ·injection hm
     ·cases hm
   ·have hn:readB b=none:=by rw [hR,if_neg fun h=>hK ⟨h.2.1,h.2.2.1,h.2.2.2.1,h.2.2.2.2.1,h.2.2.2.2.2.1,h.2.2.2.2.2.2.1⟩]
    refine⟨zNt,?_,fun m hm=>by rw [hn] at hm;cases hm⟩
    rw [hn]
    refine pcall_of_vc h537 c49 (by simp [a49]) fun hr=>?_
    simp [a49]
    refine vc_path [.ret (.tup [dV (.mk k n s [v0,v1,v2,v3,v4,v5,v6]),dI (decE b)])] ?_
    rw [dV_eq] at hD ⊢
    simp
    refine⟨by simpa using hD,?_⟩
    refine vc_path [] ?_
    simp [e1,e2,e4,dV_eta]
    refine vc_loopK [2,4] Nat (fun i=>[(7,true,.d (dI i)),(6,true,.own 2 1 (([v0.n,v1.n,v2.n,v3.n,v4.n,v5.n].take i).map dI))]) (fun _=>[(2,.row)]) (fun i=>i≤6∧(0<i→v0.k=1)∧(1<i→v1.k=1)∧(2<i→v2.k=1)∧(3<i→v3.k=1)∧(4<i→v4.k=1)∧(5<i→v5.k=1)) (fun i=>6-i) 0 (by simp) ⟨[],[],?_⟩ (fun i hi=>?_)
    ·simp
    obtain⟨hi,g0,g1,g2,g3,g4,g5⟩:=hi
    simp
    refine⟨fun hlt=>?_,fun hge=>?_⟩
    ·have h6:i=0∨i=1∨i=2∨i=3∨i=4∨i=5:=by omega
     rcases h6 with rfl | rfl | rfl | rfl | rfl | rfl
     ·simp at g0 g1 g2 g3 g4 g5
      simp [dV_eta]
      exact⟨fun q=>leD_of_eq rfl,fun q=>⟨1,by simp [q],by simp,[(2,4)],[],by simp [wrap64];try exact LeD.refl _⟩⟩
     ·simp at g0 g1 g2 g3 g4 g5
      simp [dV_eta,g0]
      exact⟨fun q=>leD_of_eq rfl,fun q=>⟨2,by simp [q,g0],by simp,[(2,4)],[],by simp [wrap64];try exact LeD.refl _⟩⟩
     ·simp at g0 g1 g2 g3 g4 g5
      simp [dV_eta,g0,g1]
      exact⟨fun q=>leD_of_eq rfl,fun q=>⟨3,by simp [q,g0,g1],by simp,[(2,4)],[],by simp [wrap64];try exact LeD.refl _⟩⟩
     ·simp at g0 g1 g2 g3 g4 g5
      simp [dV_eta,g0,g1,g2]
      exact⟨fun q=>leD_of_eq rfl,fun q=>⟨4,by simp [q,g0,g1,g2],by simp,[(2,4)],[],by simp [wrap64];try exact LeD.refl _⟩⟩
     ·simp at g0 g1 g2 g3 g4 g5
      simp [dV_eta,g0,g1,g2,g3]
      exact⟨fun q=>leD_of_eq rfl,fun q=>⟨5,by simp [q,g0,g1,g2,g3],by simp,[(2,4)],[],by simp [wrap64];try exact LeD.refl _⟩⟩
     ·simp at g0 g1 g2 g3 g4 g5
      simp [dV_eta,g0,g1,g2,g3,g4]
      exact⟨fun q=>leD_of_eq rfl,fun q=>⟨6,by simp [q,g0,g1,g2,g3,g4],by simp,[(2,4)],[],by simp [wrap64];try exact LeD.refl _⟩⟩
    ·exact absurd ⟨g0 (by omega),g1 (by omega),g2 (by omega),g3 (by omega),g4 (by omega),g5 (by omega)⟩ hK
  ·have hn:readB b=none:=by rw [hR,if_neg fun h=>e4 h.2.2.2.2.2.2.2]
   refine⟨zNt,?_,fun m hm=>by rw [hn] at hm;cases hm⟩
   rw [hn]
   refine pcall_of_vc h537 c49 (by simp [a49]) fun hr=>?_
   simp [a49]
   refine vc_path [.ret (.tup [dV (.mk k n s [v0,v1,v2,v3,v4,v5,v6]),dI (decE b)])] ?_
   rw [dV_eq] at hD ⊢
   simp
   refine⟨by simpa using hD,?_⟩
   refine vc_path [] ?_
   simp [e1,e2,e4,dV_eta]
   exact leD_of_eq rfl
 ·have hn:readB b=none:=readB_no (by
   by_cases q1:decE b=0
   ·by_cases q2:(decL b).k=3
    ·exact .inr (.inl fun q3=>hA ⟨q1,q2,q3⟩)
    ·exact .inr (.inr q2)
   ·exact .inl q1)
  refine⟨zNt,?_,fun m hm=>by rw [hn] at hm;cases hm⟩
  rw [hn]
  generalize hv:decL b=v at *
  cases v with
  | mk k n s l =>
  simp only [Vl.k,Vl.l] at hA
  refine pcall_of_vc h537 c49 (by simp [a49]) fun hr=>?_
  simp [a49]
  refine vc_path [.ret (.tup [dV (.mk k n s l),dI (decE b)])] ?_
  rw [dV_eq] at hD ⊢
  simp
  refine⟨by simpa using hD,?_⟩
  refine vc_path [] ?_
  by_cases q1:decE b=0
  ·by_cases q2:k=3
   ·have q3:¬ (l.length:Int)=7:=fun h=>hA ⟨q1,q2,by omega⟩
    have q3':¬ l.length=7:=by omega
    simp [q1,q2,q3,q3']
    exact leD_of_eq rfl
   ·simp [q1,q2]
    exact leD_of_eq rfl
  ·simp [q1]
   exact leD_of_eq rfl
end

section
attribute [local simp] dZ_agg dZ_nt dZ_noTup dZ_cells dZ_one bz_toList bz_size strV dSp_cells dSp_isAgg dSp_noTup dSp_nt dCh_cells dCh_isAgg dCh_noTup dCh_nt dNt_cells dNt_isAgg dNt_noTup dNt_nt dPe_cells dPe_isAgg dPe_noTup dPe_nt dRm_cells dRm_isAgg dRm_noTup dRm_nt dPc_cells dPc_agg dPc_noTup dNw_cells dNw_agg dNw_noTup
set_option maxRecDepth 8000
set_option maxHeartbeats 4000000
noncomputable def sRdN (b:List UInt8) (h:b.length≤1099511627776):Nt:=Classical.choose (sRead b h)
noncomputable def rRdN (b:List UInt8) (h:b.length≤1099511627776):Nt:=Classical.choose (rRead b h)
theorem sRdN_eq{b:List UInt8}{h:b.length≤1099511627776}{m:Nt}(e:readB b=some m):sRdN b h=m:=(Classical.choose_spec (sRead b h)).2 m e
inductive C539:FuncId→List D→Out→Prop
 | rd (b:List UInt8) (h:b.length≤1099511627776):C539 47 [.sl 1 (b.map dU)] (.ret (.tup [dNt (sRdN b h),dB (readB b).isSome]))
 | rrd (b:List UInt8) (h:b.length≤1099511627776):C539 49 [.sl 1 (b.map dU)] (.ret (.tup [dNt (rRdN b h),dB (readB b).isSome]))
 | valid (l:List Nt):C539 46 [dPe l] (.ret (dB (okPe l)))
 | rvalid (l:List Nt):C539 26 [dPe l] (.ret (dB (okPe l)))
 | net (w:Nw):C539 45 [dNw w] (.ret (dI (eNet w)))
 | rnet (w:Nw):C539 48 [dNw w] (.ret (dI (eNet w)))
theorem h539:∀ f ds out,C539 f ds out→PCall Tryz.prog f ds out:=by
 intro f ds out h
 cases h with
 | rd b h=>exact(Classical.choose_spec (sRead b h)).1
 | rrd b h=>exact(Classical.choose_spec (rRead b h)).1
 | valid l=>exact sValid l
 | rvalid l=>exact rValid l
 | net w=>exact nwCheck w
 | rnet w=>exact nwRcheck w
theorem okPc_len{p:Pc}(h:okPc p=true):p.p.length≤1099511627776∧0≤p.a∧0≤p.b:=by
 unfold okPc cValid at h
 simp only [Bool.and_eq_true,decide_eq_true_eq] at h
 obtain⟨⟨⟨h1,h2⟩,h3⟩,h4⟩:=h
 split at h1 <;> split at h2 <;> refine⟨by omega,by omega,by omega⟩
theorem okNw_all{w:Nw}(h:okNw w=true):∀ p∈w.q,okPc p=true:=by
 unfold okNw at h
 simp only [Bool.and_eq_true] at h
 exact List.all_eq_true.1 h.2.1
theorem okRm_iff{r:Rm}:okRm r=true↔1≤r.ps.length∧r.ps.length≤24∧okNw r.net=true∧(∀ p∈r.ps,okPe p=true)∧∀ p∈r.net.q,okPq r.ps.length p=true:=by
 unfold okRm
 simp only [Bool.and_eq_true,decide_eq_true_eq,List.all_eq_true]
theorem rmE_530{r:Rm}(h:¬ okRm r=true):rmE r=530:=if_neg h
theorem rmE_0{r:Rm}(h:okRm r=true):rmE r=0:=if_pos h
theorem okPq_iff{n:Nat}{p:Pc}:okPq n p=true↔(readB p.p).isSome=true∧p.a<n∧p.b<n:=by
 unfold okPq
 simp only [Bool.and_eq_true,decide_eq_true_eq]
theorem sCheck(r:Rm):PCall Tryz.prog 16 [dRm r] (.ret (dI (rmE r))):=by
 refine pcall_of_vc h539 c16 (by simp [a16]) fun hr=>?_
 have hlen:=((hr (dRm r) (by simp)).agg (.sl 1 (r.ps.map dPe)) (by simp [dRm])).2.sl.1
 have hlen2:=((hr (dRm r) (by simp)).agg (.sl 3 (r.net.q.map dPc)) (by simp [dRm])).2.sl.1
 simp at hlen hlen2
 have hN:=C539.net r.net
 simp [a16]
 by_cases q1:1≤r.ps.length∧r.ps.length≤24
 ·obtain⟨q1,q2⟩:=q1
  have p1:¬ (r.ps.length:Int)<1:=by omega
  have p2:¬ (24:Int)<(r.ps.length:Int):=by omega
  have p1':¬ r.ps.length=0:=by omega
  have p2':¬ 24<r.ps.length:=by omega
  refine vc_path [.ret (dI (eNet r.net))] ?_
  cases q3:okNw r.net with
  | false =>
   unfold eNet at hN ⊢
   rw [q3] at hN ⊢
   simp [p1,p2,p1',p2',dRm] at hN ⊢
   rw [rmE_530 fun h=>by rw [(okRm_iff.1 h).2.2.1] at q3;cases q3]
   exact⟨hN,leD_of_eq rfl⟩
  | true =>
   unfold eNet at hN ⊢
   rw [q3] at hN ⊢
   have hpk:=okNw_all q3
   simp [p1,p2,p1',p2',dRm] at hN ⊢
   refine⟨hN,?_⟩
   refine vc_loopK [1,26,27] Nat (fun y=>[(28,true,.d (dI y))]) (fun y=>[]) (fun y=>y≤r.ps.length∧∀ (j:Nat) (h:j<y) (h2:j<r.ps.length),okPe r.ps[j]=true) (fun y=>r.ps.length-y) 0 (by simp) ⟨[],[],?_⟩ (fun k hk=>?_)
   ·simp
   obtain⟨h1,h2⟩:=hk
   simp
   refine⟨fun hlt=>?_,fun hge=>?_⟩
   ·simp [hlt]
    have hV:=C539.valid r.ps[k]
    refine vc_path [.ret (dB (okPe r.ps[k]))] ?_
    cases hp:okPe r.ps[k] with
    | false =>
     have hall:rmE r=530:=rmE_530 fun h=>by
      have:=(okRm_iff.1 h).2.2.2.1 _ (List.getElem_mem hlt)
      rw [hp] at this;cases this
     rw [hp] at hV
     simp [hlt,dPe] at hV ⊢
     exact⟨hV,leD_of_eq (by simp [hall])⟩
    | true =>
     rw [hp] at hV
     simp [hlt,dPe] at hV ⊢
     refine⟨hV,k+1,⟨by omega,fun j hj hj2=>?_⟩,by omega,[],[],?_⟩
     ·by_cases e:j=k
      ·subst e;exact hp
      ·exact h2 j (by omega) hj2
     ·rw [wrap64 (by omega)];simp
   ·have:k=r.ps.length:=by omega
    subst this
    have hall:∀ p∈r.ps,okPe p=true:=fun p hp=>by
     obtain⟨j,hj,rfl⟩:=List.mem_iff_getElem.1 hp
     exact h2 j hj hj
    simp
    refine vc_loopK [1,38,39] Nat (fun y=>[(40,true,.d (dI y))]) (fun y=>[]) (fun y=>y≤r.net.q.length∧∀ (j:Nat) (h:j<y) (h2:j<r.net.q.length),okPq r.ps.length r.net.q[j]=true) (fun y=>r.net.q.length-y) 0 (by simp) ⟨[],[],?_⟩ (fun i hi=>?_)
    ·simp
    obtain⟨h3,h4⟩:=hi
    simp
    refine⟨fun hlt=>?_,fun hge=>?_⟩
    ·simp [hlt]
     have hb:=okPc_len (hpk _ (List.getElem_mem hlt))
     have hV:=C539.rd r.net.q[i].p hb.1
     refine vc_path [.ret (.tup [dNt (sRdN r.net.q[i].p hb.1),dB (readB r.net.q[i].p).isSome])] ?_
     simp [hlt,dPc]
     refine⟨hV,?_⟩
     have hbad:¬ okPq r.ps.length r.net.q[i]=true→rmE r=530:=fun hp=>rmE_530 fun h=>hp ((okRm_iff.1 h).2.2.2.2 _ (List.getElem_mem hlt))
     refine vc_path [] ?_
     simp
     refine⟨fun hn=>leD_of_eq (by rw [hbad fun h=>by have:=(okPq_iff.1 h).1;rw [hn] at this;cases this]),fun hs=>⟨fun hm=>leD_of_eq (by rw [hbad fun h=>by have h1:=(okPq_iff.1 h).2;split at hm <;> omega]),fun hm=>?_⟩⟩
     have hok:okPq r.ps.length r.net.q[i]=true:=okPq_iff.2 ⟨hs,by split at hm <;> omega,by split at hm <;> omega⟩
     refine⟨i+1,⟨by omega,fun j hj hj2=>?_⟩,by omega,[],[],?_⟩
     ·by_cases e:j=i
      ·subst e;exact hok
      ·exact h4 j (by omega) hj2
     ·rw [wrap64 (by omega)];simp
    ·have:i=r.net.q.length:=by omega
     subst this
     rw [rmE_0 (okRm_iff.2 ⟨q1,q2,q3,hall,fun p hp=>by
      obtain⟨j,hj,rfl⟩:=List.mem_iff_getElem.1 hp
      exact h4 j hj hj⟩)]
     exact leD_of_eq rfl
 ·refine vc_path [.ret (dI 0)] ?_
  have hE:rmE r=530:=rmE_530 fun h=>q1 ⟨(okRm_iff.1 h).1,(okRm_iff.1 h).2.1⟩
  by_cases p1:r.ps.length=0
  ·simp [p1,hE]
  ·have p2:¬ (r.ps.length:Int)<1:=by omega
   have p3:(24:Int)<(r.ps.length:Int):=by omega
   have p4:24<r.ps.length:=by omega
   simp [p1,p2,p3,p4,hE]
end

section
attribute [local simp] dZ_agg dZ_nt dZ_noTup dZ_cells dZ_one bz_toList bz_size strV dSp_cells dSp_isAgg dSp_noTup dSp_nt dCh_cells dCh_isAgg dCh_noTup dCh_nt dNt_cells dNt_isAgg dNt_noTup dNt_nt
set_option maxRecDepth 8000
set_option maxHeartbeats 4000000
inductive C540:FuncId→List D→Out→Prop
 | cmp (a b:Nt) (ha:a.ch.sp.tx.length≤1000000) (hb:b.ch.sp.tx.length≤1000000):C540 90 [dNt a,dNt b] (.ret (dI (cmpT (msgB a) (msgB b))))
 | bef (a b:Nt) (ha:a.ch.sp.tx.length≤1000000) (hb:b.ch.sp.tx.length≤1000000):C540 56 [dNt a,dNt b] (.ret (dB (bLt (msgB a) (msgB b))))
theorem h540:∀ f ds out,C540 f ds out→PCall Tryz.prog f ds out:=by
 intro f ds out h
 cases h with
 | cmp a b ha hb=>exact sCmpN a b ha hb
 | bef a b ha hb=>exact rBefore a b ha hb
theorem okNt_tx6{n:Nt}(h:okNt n=true):n.ch.sp.tx.length≤1000000:=by have:=okNt_tx h;omega
theorem sSearch(l:List Nt) (n:Nt) (hl:okNs none l=true) (hn:okNt n=true) (hlen:l.length≤100000):PCall Tryz.prog 116 [.sl 7 (l.map dNt),dNt n,.fn (.func 90) [] []] (.ret (.tup [dI (posN l n),dB (decide (l[posN l n]?=some n))])):=by
 have hok:=okNs_ok hl
 have hpw:=okNs_pw hl
 have hpi:=List.pairwise_iff_getElem.1 hpw
 refine pcall_of_vc h540 c116 (by simp [a116]) fun hr=>?_
 simp [a116]
 refine vc_loopK [0,2,4,8] (Nat×Nat) (fun y=>[(9,true,.d (dI y.1)),(10,true,.d (dI y.2))]) (fun y=>[]) (fun y=>y.1≤y.2∧y.2≤l.length∧(∀ (k:Nat) (hk:k<l.length),k<y.1→nLt l[k] n)∧(∀ (k:Nat) (hk:k<l.length),y.2≤k→¬ nLt l[k] n)) (fun y=>y.2-y.1) (0,l.length) ⟨by omega,by omega,fun k hk h=>by omega,fun k hk h=>by omega⟩ ⟨[],[],?_⟩ (fun y hy=>?_)
 ·simp
 obtain⟨i,j⟩:=y
 obtain⟨h1,h2,h3,h4⟩:=hy
 simp only at h1 h2 h3 h4
 simp
 refine⟨fun hlt=>?_,fun hge=>?_⟩
 ·have hm:(i+j) / 2<l.length:=by omega
  have e1:IntKind.i64.wrap ((i:Int)+(j:Int))=((i+j:Nat):Int):=by rw [wrap64 (by omega)];omega
  have e2:IntKind.u64.wrap (((i+j:Nat)):Int)=((i+j:Nat):Int):=wrap_u64 (by omega) (by omega)
  have e3:=half64 i j (by omega)
  have e4:=sh1 i j
  have e5:IntKind.i64.wrap (((i+j) / 2:Nat)+1:Int)=(((i+j) / 2+1:Nat):Int):=by rw [wrap64 (by omega)];omega
  have k1:=C540.cmp l[(i+j) / 2] n (okNt_tx6 (hok _ (List.getElem_mem hm))) (okNt_tx6 hn)
  rw [e1,e2,e4]
  simp only [e3]
  generalize hq:(i+j) / 2=q at *
  refine⟨trivial,vc_pathD [.ret (dI (cmpT (msgB l[q]) (msgB n)))] ?_⟩
  by_cases q5:nLt l[q] n
  ·have q6:cmpT (msgB l[q]) (msgB n)<0:=(cmpT_lt _ _).2 q5
   simp [hm,q6,e5]
   refine⟨k1,rfl,q+1,j,⟨by omega,h2,fun k hk hkq=>?_,fun k hk hj=>Bool.eq_false_iff.2 (h4 k hk hj)⟩,by omega,[],[],?_⟩
   ·by_cases e:k=q
    ·subst e;exact q5
    ·exact bLt_trans (hpi k q hk hm (by omega)) q5
   ·simp
  ·have q6:¬ cmpT (msgB l[q]) (msgB n)<0:=fun h=>q5 ((cmpT_lt _ _).1 h)
   simp [hm,q6,e5]
   refine⟨k1,rfl,i,q,⟨by omega,by omega,h3,fun k hk hkq=>?_⟩,by omega,[],[],?_⟩
   ·by_cases e:k=q
    ·subst e;exact Bool.eq_false_iff.2 q5
    ·exact Bool.eq_false_iff.2 fun h=>q5 (bLt_trans (hpi q k hm hk (by omega)) h)
   ·simp
 ·have:i=j:=by omega
  subst this
  have hp:=posN_uniq hpw h2 h3 h4
  rw [← hp]
  by_cases hi:i<l.length
  ·have k1:=C540.cmp l[i] n (okNt_tx6 (hok _ (List.getElem_mem hi))) (okNt_tx6 hn)
   refine vc_pathD [.ret (dI (cmpT (msgB l[i]) (msgB n)))] ?_
   simp [hi]
   have hq:(cmpT (msgB l[i]) (msgB n) == 0)=decide (l[i]=n):=by
    rw [Bool.eq_iff_iff,beq_iff_eq,decide_eq_true_eq,cmpT_zero]
    exact⟨fun h=>msgB_inj (hok _ (List.getElem_mem hi)) hn h,fun h=>by rw [h]⟩
   exact⟨k1,rfl,leD_of_eq (by simp [hq,hi])⟩
  ·have hi':¬ (i:Int)<l.length:=by omega
   refine vc_pathD [.ret (dI 0)] ?_
   simp [hi,hi']
   rfl
theorem eqB_nt(x y:Nt):eqB [dI x.lang,dI x.seq,dI x.ch.at_,dI x.ch.kind,dI x.ch.sp.id,dI x.ch.sp.ver,dZ x.ch.sp.tx] [dI y.lang,dI y.seq,dI y.ch.at_,dI y.ch.kind,dI y.ch.sp.id,dI y.ch.sp.ver,dZ y.ch.sp.tx]=decide (x=y):=by
 rw [Bool.eq_iff_iff]
 simp only [dI,dZ,eqB,Bool.and_eq_true,beq_iff_eq,decide_eq_true_eq,Bool.and_true,bz_inj]
 constructor
 ·rintro⟨h1,h2,h3,h4,h5,h6,h7⟩;exact Nt.ext' h1 h2 (Ch.ext' h3 h4 (Sp.ext' h5 h6 h7))
 ·rintro rfl;exact⟨rfl,rfl,rfl,rfl,rfl,rfl,rfl⟩
theorem rLearn(l:List Nt) (n:Nt) (hl:okNs none l=true) (hn:okNt n=true) (hlen:l.length≤100000):PCall Tryz.prog 54 [.sl 7 (l.map dNt),dNt n] (.ret (.tup [.sl 7 ((lrnL l n).map dNt),dI (lrnE l n)])):=by
 have hok:=okNs_ok hl
 have hpw:=okNs_pw hl
 refine pcall_of_vc h540 c54 (by simp [a54]) fun hr=>?_
 simp [a54]
 refine vc_loopK [0,3] Nat (fun y=>[(6,true,.d (dI y))]) (fun y=>[]) (fun y=>y≤l.length∧∀ (k:Nat) (hk:k<l.length),k<y→nLt l[k] n) (fun y=>l.length-y) 0 (by simp) ⟨[],[],?_⟩ (fun i hi=>?_)
 ·simp
 obtain⟨h1,h2⟩:=hi
 simp
 by_cases hlt:i<l.length
 ·have k1:=C540.bef l[i] n (okNt_tx6 (hok _ (List.getElem_mem hlt))) (okNt_tx6 hn)
  refine vc_pathD [.ret (dB (bLt (msgB l[i]) (msgB n)))] ?_
  cases q5:bLt (msgB l[i]) (msgB n) with
  | true =>
   rw [q5] at k1
   simp [hlt]
   refine⟨k1,rfl,i+1,⟨by omega,fun k hk hki=>?_⟩,by omega,[],[],?_⟩
   ·by_cases e:k=i
    ·subst e;exact q5
    ·exact h2 k hk (by omega)
   ·rw [wrap64 (by omega)];simp
  | false =>
   rw [q5] at k1
   simp [hlt]
   refine⟨k1,rfl,?_⟩
   have hpi:=List.pairwise_iff_getElem.1 hpw
   have hp:=posN_uniq hpw (by omega) h2 (fun k hk hik hlt2=>by
    by_cases e:k=i
    ·subst e;rw [nLt,q5] at hlt2;cases hlt2
    ·have:=bLt_trans (hpi i k hlt hk (by omega)) hlt2
     rw [q5] at this;cases this)
   have heq:eqB [.lit (.int .i64 l[i].lang),.lit (.int .i64 l[i].seq),.lit (.int .i64 l[i].ch.at_),.lit (.int .i64 l[i].ch.kind),.lit (.int .i64 l[i].ch.sp.id),.lit (.int .i64 l[i].ch.sp.ver),dZ l[i].ch.sp.tx] [.lit (.int .i64 n.lang),.lit (.int .i64 n.seq),.lit (.int .i64 n.ch.at_),.lit (.int .i64 n.ch.kind),.lit (.int .i64 n.ch.sp.id),.lit (.int .i64 n.ch.sp.ver),dZ n.ch.sp.tx]=decide (l[i]=n):=eqB_nt l[i] n
   have hec:eqC [.int .i64,.int .i64,.int .i64,.int .i64,.int .i64,.int .i64,.str] [.lit (.int .i64 l[i].lang),.lit (.int .i64 l[i].seq),.lit (.int .i64 l[i].ch.at_),.lit (.int .i64 l[i].ch.kind),.lit (.int .i64 l[i].ch.sp.id),.lit (.int .i64 l[i].ch.sp.ver),dZ l[i].ch.sp.tx] [.lit (.int .i64 n.lang),.lit (.int .i64 n.seq),.lit (.int .i64 n.ch.at_),.lit (.int .i64 n.ch.kind),.lit (.int .i64 n.ch.sp.id),.lit (.int .i64 n.ch.sp.ver),dZ n.ch.sp.tx]=True:=by simp [eqC,dZ]
   unfold lrnE lrnL
   rw [← hp]
   refine vc_pathD [] ?_
   simp [hlt,heq,hec,dNt]
   refine⟨rfl,fun he=>?_,fun he=>⟨fun h4=>?_,fun h4=>⟨by omega,⟨by omega,by omega⟩,⟨by omega,by omega⟩,by omega,⟨by omega,by omega⟩,rfl,?_⟩⟩⟩
   ·rw [if_pos he,if_pos he];exact⟨leD_of_eq rfl,leD_of_eq rfl⟩
   ·rw [if_neg he,if_neg he,if_pos (by omega),if_pos (by omega)];exact⟨LeD.nil' 7 7,leD_of_eq rfl⟩
   ·rw [if_neg he,if_neg he,if_neg (by omega),if_neg (by omega)]
    refine⟨leD_of_eq ?_,leD_of_eq rfl⟩
    have ht:List.take l.length (l.map dNt)=l.map dNt:=List.take_of_length_le (by simp)
    rw [ht,List.map_append,List.map_take,List.map_cons,List.map_drop]
    rfl
 ·have hlt':¬ (i:Int)<l.length:=by omega
  refine vc_pathD [.ret (dB false)] ?_
  simp [hlt,hlt']
  refine⟨rfl,?_⟩
  have:i=l.length:=by omega
  subst this
  have hp:=posN_uniq hpw (by omega) h2 (fun k hk hik=>by omega)
  unfold lrnE lrnL
  rw [← hp]
  refine vc_pathD [] ?_
  simp
  refine⟨rfl,fun h4=>?_,fun h4=>⟨⟨by omega,by omega⟩,⟨by omega,by omega⟩,rfl,?_⟩⟩
  ·rw [if_pos (by omega),if_pos (by omega)];exact⟨LeD.nil' 7 7,leD_of_eq rfl⟩
  ·rw [if_neg (by omega),if_neg (by omega)]
   refine⟨leD_of_eq ?_,leD_of_eq rfl⟩
   rw [List.take_of_length_le (by simp),List.map_append]
   rfl
end

section
attribute [local simp] dZ_agg dZ_nt dZ_noTup dZ_cells dZ_one bz_toList bz_size strV dSp_cells dSp_isAgg dSp_noTup dSp_nt dCh_cells dCh_isAgg dCh_noTup dCh_nt dNt_cells dNt_isAgg dNt_noTup dNt_nt dPe_cells dPe_isAgg dPe_noTup dPe_nt dRm_cells dRm_isAgg dRm_noTup dRm_nt dPc_cells dPc_agg dPc_noTup dNw_cells dNw_agg dNw_noTup
set_option maxRecDepth 8000
set_option maxHeartbeats 4000000
theorem allDm:∀ ds:List D,allD (ds.map AV.d)=some ds
 | []=>rfl
 | d::r=>by rw [List.map_cons,allD_d,allDm r];rfl
theorem all2_leD:∀ ds:List D,All2 LeD ds ds
 | []=>.nil
 | d::r=>.cons (LeD.refl d) (all2_leD r)
theorem frz_rows{h:List (Nat×HO)}{k n z l c:Nat}{ag:Bool}{es:List D}(hb:Go.Proofs.YthimbimilnfdnaaGreatDoor.AL.look h n=some (HO.box ag (wr es))) (hz:∀ e∈es,e.cells.length=z) (h1:∀ c∈D.flat es,c.one=true) (hl:l=es.length):frz h k (.bsl n 0 z l c) (.sl z es):=by
 have hfl:(D.flat es).length=es.length*z:=flat_len hz
 obtain⟨e1,e2,e3⟩:=elsD_spec (z:=z) (len:=l) (ds:=D.flat es) (by rw [hfl,hl];exact Nat.le_refl _) h1
 rw [frz_bsl,hb]
 show match allD (wr es) with
  | some ds=>0+l*z≤ds.length∧LeD (.sl z (elsD z l (ds.drop 0))) (.sl z es)
  | none=>False
 rw [wr,allDm]
 refine⟨by rw [hfl,hl];omega,?_⟩
 rw [List.drop_zero]
 refine LeD_slx ?_ (by rw [e1,hl]) hz h1
 rw [e3,List.take_of_length_le (by rw [hfl,hl];exact Nat.le_refl _)]
 exact all2_leD _
theorem dPe_one{ps:List (List Nt)}:∀ c∈D.flat (ps.map dPe),c.one=true:=fun c hc=>by
 simp only [D.flat,List.mem_flatMap,List.mem_map] at hc
 obtain⟨e,⟨p,_,rfl⟩,hc⟩:=hc
 simp only [dPe_cells,List.mem_singleton] at hc
 subst hc;rfl
theorem dPe_z{ps:List (List Nt)}:∀ e∈ps.map dPe,e.cells.length=1:=fun e he=>by
 obtain⟨p,_,rfl⟩:=List.mem_map.1 he;rfl
theorem wr_pe:∀ ps:List (List Nt),wr (ps.map dPe)=ps.map fun l=>AV.d (.sl 7 (l.map dNt))
 | []=>rfl
 | l::r=>by rw [List.map_cons,wr_cons,wr_pe r];rfl
theorem wr_pe_set(ps:List (List Nt)) (i:Nat) (l:List Nt):(wr (ps.map dPe)).set i (AV.d (.sl 7 (l.map dNt)))=wr ((ps.set i l).map dPe):=by
 rw [wr_pe,wr_pe,List.map_set]
theorem leZRm:LeD (.agg [.nil 1,.nil 3,.nil 2]) (dRm zRm):=LeD.agg (.cons (LeD.nil' 1 1) (.cons (LeD.nil' 3 3) (.cons (LeD.nil' 2 2) .nil))) (by simp)
end

section
attribute [local simp] dZ_agg dZ_nt dZ_noTup dZ_cells dZ_one bz_toList bz_size strV dSp_cells dSp_isAgg dSp_noTup dSp_nt dCh_cells dCh_isAgg dCh_noTup dCh_nt dNt_cells dNt_isAgg dNt_noTup dNt_nt dPe_cells dPe_isAgg dPe_noTup dPe_nt dRm_cells dRm_isAgg dRm_noTup dRm_nt dPc_cells dPc_agg dPc_noTup dNw_cells dNw_agg dNw_noTup dMv_cells dMv_isAgg dMv_noTup dMv_nt
set_option maxRecDepth 8000
set_option maxHeartbeats 4000000
def restQ (k i j:Nat) (n:Nt):List Pc:=((List.range' j (k-j)).filter (fun j=>j != i)).map fun(j:Nat)=>pcOf i j n
theorem restQ_0(k i:Nat) (n:Nt):restQ k i 0 n=tellQ k i n:=by
 unfold restQ tellQ;rw [Nat.sub_zero,← List.range_eq_range']
theorem restQ_end(k i:Nat) (n:Nt):restQ k i k n=[]:=by unfold restQ;rw [Nat.sub_self];rfl
theorem restQ_ne{k i j:Nat}{n:Nt}(h:j<k) (hi:¬ j=i):restQ k i j n=pcOf i j n::restQ k i (j+1) n:=by
 unfold restQ
 rw [show k-j=(k-(j+1))+1 by omega,List.range'_succ,List.filter_cons_of_pos (by simpa using hi)];rfl
theorem restQ_eq{k i j:Nat}{n:Nt}(h:j<k) (hi:j=i):restQ k i j n=restQ k i (j+1) n:=by
 unfold restQ
 rw [show k-j=(k-(j+1))+1 by omega,List.range'_succ,List.filter_cons_of_neg (by simpa using hi)]
def finR (ps:List (List Nt)) (s:Nw×Int):Rm×Int:=if s.2≠0 then (zRm,s.2) else (⟨ps,s.1⟩,0)
theorem tellR_eq{r:Rm}{i:Nat}{n:Nt}(hi:i<r.ps.length):tellR r i n=if lrnE r.ps[i] n=0 then finR (r.ps.set i (lrnL r.ps[i] n)) (sndAll r.net (tellQ r.ps.length i n)) else (zRm,lrnE r.ps[i] n):=by
 unfold tellR;rw [List.getElem?_eq_getElem hi]
 by_cases h:lrnE r.ps[i] n=0
 ·rw [if_pos h];show (if lrnE r.ps[i] n≠0 then _ else _)=_;rw [if_neg (fun h'=>h' h)];rfl
 ·rw [if_neg h];show (if lrnE r.ps[i] n≠0 then _ else _)=_;rw [if_pos h]
theorem syncR_eq{r:Rm}{i k:Nat}(hi:i<r.ps.length):syncR r i k=finR r.ps (sndAll r.net (r.ps[i].map fun n=>pcOf i k n)):=by
 unfold syncR;rw [List.getElem?_eq_getElem hi];rfl
theorem sndAll_cons(w:Nw) (p:Pc) (r:List Pc):sndAll w (p::r)=if sndE w p=0 then sndAll (sndN w p) r else (w,sndE w p):=rfl
def tellX (r:Rm) (m:Mv):Rm×Int:=if inR r m.peer=false then (zRm,1) else if okNt m.note=false then (zRm,530) else tellR r m.peer.toNat m.note
theorem okPe_iff{l:List Nt}:okPe l=true↔okNs none l=true∧l.length≤4096:=by unfold okPe;simp only [Bool.and_eq_true,decide_eq_true_eq]
theorem inR_iff{r:Rm}{i:Int}:inR r i=true↔0≤i∧i<r.ps.length:=by unfold inR;simp only [Bool.and_eq_true,decide_eq_true_eq]
end

end Go.Proofs.YthimbimilnfdnaaGreatDoor
