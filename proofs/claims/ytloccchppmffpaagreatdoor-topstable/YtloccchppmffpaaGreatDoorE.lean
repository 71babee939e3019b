/- Part of the proof. -/
import Derived.Deep.Slices
import Derived.DataReads
import Derived.Deep.Strs
import Derived.OpenShut
import Derived.ProofKit
import Derived.ChangeCalls
import Derived.Test.YtloccchppmffpaaGreatDoorD
set_option linter.unnecessarySimpa false
set_option linter.unusedVariables false
set_option linter.unusedSimpArgs false
set_option linter.defProp false
set_option maxRecDepth 20000
set_option maxHeartbeats 8000000
namespace Go.Proofs.YtloccchppmffpaaGreatDoor.AL
open Go
def fi:=@eq_true
def jF:=@List.map_congr_left
def jG:=@List.all_cons
def AS:=@List.set_cons_zero
def AT:=@List.map_id
def Hq:=@List.all_map
section
theorem Tl(x:D):aB x x↔True:=⟨fun _=>trivial,fun _=>aB.refl x⟩
theorem Tn(a b:Nat):aB (.nil a) (.sl b [])↔True:=⟨fun _=>trivial,fun _=>aB.BR a b⟩
theorem aP{x y:D}(h:x=y):aB x y:=h ▸ aB.refl x
theorem To(v:Value):(D.lit v).cells=[.lit v]:=rfl
theorem Tp(n:Nat):(D.nil n).cells=[.nil n]:=rfl
theorem Tq(n:Nat)(a:List D):(D.sl n a).cells=[.sl n a]:=rfl
theorem Ts(a:List D):(D.agg a).cells=a:=rfl
theorem Tt(x:D):(D.ip x).cells=[.ip x]:=rfl
theorem Tu(f:Fn)(a b:List D):(D.fn f a b).cells=[.fn f a b]:=rfl
theorem Tv(t:TypeId)(x:D):(D.cQ t x).cells=[.cQ t x]:=rfl
theorem Tw(v:Value):(D.lit v).isAgg=false:=rfl
theorem Tx(n:Nat):(D.nil n).isAgg=false:=rfl
theorem Ty(n:Nat)(a:List D):(D.sl n a).isAgg=false:=rfl
theorem Tz(a:List D):(D.agg a).isAgg=true:=rfl
theorem TA(x:D):(D.ip x).isAgg=false:=rfl
theorem TB(f:Fn)(a b:List D):(D.fn f a b).isAgg=false:=rfl
theorem TE(t:TypeId)(x:D):(D.cQ t x).isAgg=false:=rfl
theorem TG(v:Value):(D.lit v).one=true:=rfl
theorem TH(n:Nat):(D.nil n).one=true:=rfl
theorem TI(n:Nat)(a:List D):(D.sl n a).one=true:=rfl
theorem TJ(a:List D):(D.agg a).one=false:=rfl
theorem TK(x:D):(D.ip x).one=true:=rfl
theorem TL(f:Fn)(a b:List D):(D.fn f a b).one=true:=rfl
theorem TM(t:TypeId)(x:D):(D.cQ t x).one=true:=rfl
theorem TN(x:D):(AV.d x).cells=x.cells.map .d:=rfl
theorem TO(r n:Nat)(a:List D):(AV.own r n a).cells=[.own r n a]:=rfl
theorem TP(a:List AV):(AV.agg a).cells=a:=rfl
theorem TQ(n o:Nat):(AV.ptr n o).cells=[.ptr n o]:=rfl
theorem TS(a b c d e:Nat):(AV.aE a b c d e).cells=[.aE a b c d e]:=rfl
theorem TU(f:Fn)(a b:List AV):(AV.fn f a b).cells=[.fn f a b]:=rfl
theorem TV(x:D):(AV.d x).one=x.one:=rfl
theorem TW(r n:Nat)(a:List D):(AV.own r n a).one=true:=rfl
theorem TX(a:List AV):(AV.agg a).one=false:=rfl
theorem TY(n o:Nat):(AV.ptr n o).one=true:=rfl
theorem TZ(a b c d e:Nat):(AV.aE a b c d e).one=true:=rfl
theorem T_(f:Fn)(a b:List AV):(AV.fn f a b).one=true:=rfl
theorem T'(v:Value):(AV.d (.lit v)).cg=true:=rfl
theorem Ua(n:Nat):(AV.d (.nil n)).cg=true:=rfl
theorem Ub(n:Nat)(a:List D):(AV.d (.sl n a)).cg=true:=rfl
theorem Uc(a:List D):(AV.d (.agg a)).cg=true:=rfl
theorem Ud(x:D):(AV.d (.ip x)).cg=true:=rfl
theorem Ue(f:Fn)(a b:List D):(AV.d (.fn f a b)).cg=true:=rfl
theorem Uf(t:TypeId)(x:D):(AV.d (.cQ t x)).cg=true:=rfl
theorem Ug(r n:Nat)(a:List D):(AV.own r n a).cg=true:=rfl
theorem Uh(a:List AV):(AV.agg a).cg=true:=rfl
theorem Ui(n o:Nat):(AV.ptr n o).cg=true:=rfl
theorem Uj(a b c d e:Nat):(AV.aE a b c d e).cg=true:=rfl
theorem Uk(a b c:Nat):(AV.spare a b c).cells=[.spare a b c]:=rfl
theorem Ul(a b c:Nat):(AV.spare a b c).one=true:=rfl
theorem Um(a b c:Nat):(AV.spare a b c).cg=true:=rfl
theorem Un(n a:Nat)(b:List D):rB (.d (.nil n)) a b=.d (.nil n):=rfl
theorem Uo(n a:Nat)(c b:List D):rB (.d (.sl n c)) a b=.d (.sl a b):=rfl
theorem Up(r n a:Nat)(c b:List D):rB (.own r n c) a b=.d (.sl a b):=rfl
attribute [simp] Uk Ul Um Un Uo Up
theorem Uq(n:Nat):(AV.mp n).cells=[.mp n]:=rfl
theorem Ur(n:Nat):(AV.mp n).one=true:=rfl
theorem Us(n:Nat):(AV.mp n).cg=true:=rfl
theorem Ut(v:AV)(b:Bool):m_ true v b=.af [v,.d (.lit (.bool b))]:=rfl
theorem Uu(v:AV)(b:Bool):m_ false v b=v:=rfl
theorem Uv(k a:IntKind)(n:Int):fT (.int k) (.int a n)=decide (a=k):=rfl
theorem Uw(b:Bool):fT .bool (.bool b)=true:=rfl
theorem Ux(b:ByteArray):fT .str (.string b)=true:=rfl
theorem Cn(k c:IntKind)(a b:Int):hA (.int k a) (.int c b)=if k=c then some (a == b) else none:=rfl
theorem rV(a b:ByteArray):hA (.string a) (.string b)=some (a == b):=rfl
theorem Uy(a b:Bool):hA (.bool a) (.bool b)=some (a == b):=rfl
@[simp] theorem Jz(a b:Array Value):hA (.agg a) (.agg b)=iy a.toList b.toList:=rfl
@[simp] theorem JA:iy [] []=some true:=rfl
@[simp] theorem JB(k c:IntKind)(a b:Int)(x y:List Value):iy (.int k a::x) (.int c b::y)=match (if k=c then some (a == b) else none),iy x y with
  | some p,some q=>some (p&&q)
  | _,_=>none:=rfl
@[simp] theorem Uz(a b:ByteArray)(x y:List Value):iy (.string a::x) (.string b::y)=match iy x y with
  | some q=>some ((a == b)&&q)
  | _=>none:=by simp only [iy,rA];cases iy x y <;> rfl
@[simp] theorem ahY{a:Array Value}{v:AV}{r:List (Value×AV)}:eB ((.agg a,v)::r)=false:=rfl
attribute [simp] pT pU kp dN
theorem UA(k:Value):dJ k []=some none:=rfl
theorem oJ(k:Value)(x:Value)(v:AV)(a:List (Value×AV)):dJ k ((x,v)::a)=match hA k x with
  | some true=>some (some v)
  | some false=>dJ k a
  | none=>none:=rfl
attribute [simp] Uq Ur Us Ut Uu Uv Uw Ux Cn rV Uy UA oJ
theorem UB(f:Fn)(a b:List AV):(AV.fn f a b).cg=true:=rfl
attribute [simp] To Tp Tq Ts Tt Tu Tv Tw Tx Ty Tz TA TB TE TG TH TI TJ TK TL TM
 TN TO TP TQ TS TU TV TW TX TY TZ T_ T' Ua Ub Uc Ud Ue Uf Ug Uh Ui Uj UB
section
variable (P:Program) (cx:Cx) (Q:AE->St->Prop) (σ:St)
theorem UC(c:aO)(a b:AC):vc P cx (.cond c a b) Q σ=(match fV σ.s c with
  | some (g,.d (.lit (.bool t)))=>g=true/\(if t=true then vc P cx a Q σ else True)/\(if t=false then vc P cx b Q σ else True)
  | _=>False):=by
 rw [vc];split <;> simp_all
variable {P cx Q σ}
theorem UD{b:AC}(X:Type)(a:X->St)(I:X->Prop)(c:X->Nat)(d:X)(f:I d)(g:Sub cx.B σ (a d))(h:∀ x,I x->vc P cx b (fp (fun i=>∃ e,I e/\c e<c x/\Sub cx.B i (a e)) Q) (a x)):vc P cx (.loop b) Q σ :=
 ⟨X,a,I,c,⟨d,f,g⟩,h⟩
end
theorem JC:∃ f:(Program->Cx->AC->(AE->St->Prop)->St->Prop),f=vc:=⟨_,rfl⟩
noncomputable def bL:Program->Cx->AC->(AE->St->Prop)->St->Prop:=Classical.choose JC
theorem eR:bL=vc:=xJ JC
theorem UE(P:Program)(a:FuncId->List D->Out->Prop)(b:AF)(c:List D)(d:Out):Jl P a b c d=bL P {C:=a} b.body (ni P a b (qj d)) ⟨jo (c.map .d) 0,[],[]⟩:=by rw [eR];rfl
section
variable {P:Program}{cx:Cx}{Q:AE->St->Prop}{K:St->Prop}{s:List (Nat×Bool×AV)}{h:List (Nat×HO)}{d:List DE}
theorem go_skip:bL P cx .skip Q ⟨s,h,d⟩=Q .normal ⟨s,h,d⟩:=by rw [eR];rfl
theorem UF(a b:AC):bL P cx (.seq a b) Q ⟨s,h,d⟩=bL P cx a (fp (bL P cx b Q) Q) ⟨s,h,d⟩:=by rw [eR];rfl
theorem UG(c:aO)(a b:AC):bL P cx (.cond c a b) Q ⟨s,h,d⟩=(match fV s c with
  | some (g,.d (.lit (.bool t)))=>g=true/\(if t=true then bL P cx a Q ⟨s,h,d⟩ else True)/\(if t=false then bL P cx b Q ⟨s,h,d⟩ else True)
  | _=>False):=by rw [eR];exact UC ..
theorem UH(id:Nat)(b:AC):bL P cx (.block id b) Q ⟨s,h,d⟩=bL P cx b (iR id Q) ⟨s,h,d⟩:=by rw [eR];rfl
theorem UI(id:Nat):bL P cx (.exit id) Q ⟨s,h,d⟩=Q (.exit id) ⟨s,h,d⟩:=by rw [eR];rfl
theorem go_ret:bL P cx .ret Q ⟨s,h,d⟩=Q .ret ⟨s,h,d⟩:=by rw [eR];rfl
theorem UJ:fp K Q .normal ⟨s,h,d⟩=K ⟨s,h,d⟩:=rfl
theorem UK(i:Nat):fp K Q (.exit i) ⟨s,h,d⟩=Q (.exit i) ⟨s,h,d⟩:=rfl
theorem UL:fp K Q .ret ⟨s,h,d⟩=Q .ret ⟨s,h,d⟩:=rfl
theorem UM(x:D):fp K Q (.aQ x) ⟨s,h,d⟩=Q (.aQ x) ⟨s,h,d⟩:=rfl
def vZ(P:Program)(cx:Cx)(id:Nat)(b:AC)(Q:AE->St->Prop)(a:St):Prop:=bL P cx (.oD id b) Q a
theorem UN(id:Nat)(b:AC):bL P cx (.oD id b) Q ⟨s,h,d⟩=vZ P cx id b Q ⟨s,h,d⟩:=rfl
theorem UO{c:St}{id:Nat}{b:AC}(a:St)(d:Sub cx.B c a)(h:bL P cx b (BQ cx.B (iR id Q)) a):vZ P cx id b Q c:=by unfold vZ;rw [eR] at h |-;exact⟨a,d,h⟩
theorem UP{id:Nat}{b:AC}{a c:St}(h:a=c):vZ P cx id b Q a=vZ P cx id b Q c:=by rw [h]
theorem UQ(B:Nat)(e:AE):BQ B Q e ⟨s,h,d⟩=∃ a,Sub B ⟨s,h,d⟩ a/\Q e a:=rfl
theorem UR(id:Nat)(b:AC):bL P cx (.qa id b) Q ⟨s,h,d⟩=bL P cx b (rP (iR id Q)) ⟨s,h,d⟩:=by rw [eR];simp only [vc]
theorem US:rP Q .normal ⟨s,h,d⟩=∃ m i n a,yh m i n ⟨s,h,d⟩ a/\Q .normal a:=rfl
theorem UT:rP Q .ret ⟨s,h,d⟩=Q .ret ⟨s,h,d⟩:=rfl
theorem UW(i:Nat):rP Q (.exit i) ⟨s,h,d⟩=Q (.exit i) ⟨s,h,d⟩:=rfl
theorem UX(x:D):rP Q (.aQ x) ⟨s,h,d⟩=Q (.aQ x) ⟨s,h,d⟩:=rfl
theorem UY(id:Nat):iR id Q .normal ⟨s,h,d⟩=Q .normal ⟨s,h,d⟩:=rfl
theorem UZ(id i:Nat):iR id Q (.exit i) ⟨s,h,d⟩=if i=id then Q .normal ⟨s,h,d⟩ else Q (.exit i) ⟨s,h,d⟩:=rfl
theorem U_(id:Nat):iR id Q .ret ⟨s,h,d⟩=Q .ret ⟨s,h,d⟩:=rfl
theorem U'(id:Nat)(x:D):iR id Q (.aQ x) ⟨s,h,d⟩=Q (.aQ x) ⟨s,h,d⟩:=rfl
variable {C:FuncId->List D->Out->Prop}
theorem Va(a:AF)(K:bK->List (Nat×HO)->Prop):ni P C a K .normal ⟨s,h,d⟩=gn P C a K none d s h:=rfl
theorem Vb(a:AF)(K:bK->List (Nat×HO)->Prop):ni P C a K .ret ⟨s,h,d⟩=gn P C a K none d s h:=rfl
theorem Vc(a:AF)(K:bK->List (Nat×HO)->Prop)(x:D):ni P C a K (.aQ x) ⟨s,h,d⟩=gn P C a K (some x) d s h:=rfl
theorem Vd(a:AF)(K:bK->List (Nat×HO)->Prop):gn P C a K none [] s h=(match ky ⟨s,h,[]⟩ a.res with
  | some (c,v)=>c/\K (.ret v) h
  | none=>False):=rfl
theorem Ve(a:AF)(K:bK->List (Nat×HO)->Prop)(x:D):gn P C a K (some x) [] s h=K (.aQ x) h:=rfl
theorem JD(a:AF)(K:bK->List (Nat×HO)->Prop)(u:Option D)(n:Nat):gn P C a K u (.mark n::d) s h=(look h n=some (.obj 0)/\gn P C a K u d s (aM h n .dead)):=by cases u <;> rfl
def yu(P:Program)(C:FuncId->List D->Out->Prop)(a:AF)(K:bK->List (Nat×HO)->Prop)(b:List DE)(s:List (Nat×Bool×AV))(u:Option D)(h:List (Nat×HO)):Prop:=gn P C a K u b s h
theorem Vf(a:AF)(K:bK->List (Nat×HO)->Prop)(u:Option D):yu P C a K d s u h=gn P C a K u d s h:=rfl
theorem dQ{a:AF}{K:bK->List (Nat×HO)->Prop}{u:Option D}{f:FuncId}{as b:List AV}(T:Cx->List AV->Option D->List (Nat×HO)->(Option D->List (Nat×HO)->Prop)->Prop)(c:vS P f T)(e:T {C:=C,B:=newName h} (as++b) u h (yu P C a K d s)):gn P C a K u (.fn f as b::d) s h:=by cases u <;> exact⟨T,c,e⟩
theorem Vg(a:List RV)(K:Option D->List (Nat×HO)->Prop)(u:Option D):rQ a K u .normal ⟨s,h,d⟩=(d=[]/\(match ky ⟨s,h,[]⟩ a with | some (c,_)=>c | none=>False)/\K u h):=rfl
theorem Vh(a:List RV)(K:Option D->List (Nat×HO)->Prop)(u:Option D):rQ a K u .ret ⟨s,h,d⟩=(d=[]/\(match ky ⟨s,h,[]⟩ a with | some (c,_)=>c | none=>False)/\K u h):=rfl
theorem Vi(a:List RV)(K:Option D->List (Nat×HO)->Prop)(u:Option D)(x:D):rQ a K u (.aQ x) ⟨s,h,d⟩=(d=[]/\u=none/\K (some x) h):=rfl
theorem Vj(a:List RV)(K:Option D->List (Nat×HO)->Prop)(u:Option D):qi a K u .normal ⟨s,h,d⟩=(d=[]/\(match ky ⟨s,h,[]⟩ a with | some (c,_)=>c | none=>False)/\K none h):=rfl
theorem Vk(a:List RV)(K:Option D->List (Nat×HO)->Prop)(u:Option D):qi a K u .ret ⟨s,h,d⟩=(d=[]/\(match ky ⟨s,h,[]⟩ a with | some (c,_)=>c | none=>False)/\K none h):=rfl
theorem Vl(a:List RV)(K:Option D->List (Nat×HO)->Prop)(u:Option D)(x:D):qi a K u (.aQ x) ⟨s,h,d⟩=(d=[]/\u=none/\K (some x) h):=rfl
theorem Vm{a:AF}{b:List AV}{u:Option D}{K:Option D->List (Nat×HO)->Prop}:TD P a cx b u h K=(b.length<=a.nt/\bL P cx a.body (rQ a.res K u) ⟨jo b 0,h,[]⟩):=by rw [eR];rfl
theorem Vn{g:AR}{a:List AV}{u:Option D}{K:Option D->List (Nat×HO)->Prop}:TR P g cx a u h K=(a.length<=g.nt/\bL P cx g.rest (qi g.res K u) ⟨(g.tb,true,.d (uD u))::(g.ta,true,.d (uD u))::jo a 0,h,[]⟩):=by rw [eR];rfl
theorem Vo:uD none=.lit .nilIface:=rfl
theorem Vp(x:D):uD (some x)=x:=rfl
end
attribute [simp] UR US UT UW UX
attribute [simp] go_skip UF UG UH UN UQ UI go_ret UJ UK UL UM UY UZ U_ U' Va Vb Vc Vd Ve JD Vf Vg Vh Vi Vj Vk Vl Vm Vn Vo Vp
section
variable (hl:List (Nat×HO))
theorem Vq(f:Fn)(a c:List AV):l' hl (.fn f a c)=match nb hl a,nb hl c with
  | some (x,p),some (y,q)=>some (.fn f x y,p||q)
  | _,_=>none:=rfl
theorem Vr(x:D):l' hl (.d x)=some (x,false):=rfl
theorem Vs(r a:Nat)(b:List D):l' hl (.own r a b)=some (.sl a b,false):=rfl
theorem Vt(a:List AV):l' hl (.agg a)=(hD a).map fun b=>(.agg b,false):=rfl
theorem Vu(n o:Nat):l' hl (.ptr n o)=pX hl (.ptr n o):=rfl
theorem Vv(a b c d e:Nat):l' hl (.aE a b c d e)=pX hl (.aE a b c d e):=rfl
theorem Vw(a:Nat):l' hl (.e0 a)=some (.sl a [],false):=rfl
theorem Vx(a:Nat):jn hl (.e0 a)=[]:=rfl
theorem Vy(f:Fn)(a c:List AV):jn hl (.fn f a c)=dn hl a++dn hl c:=rfl
theorem Vz(x:D):jn hl (.d x)=[]:=rfl
theorem VA(r a:Nat)(b:List D):jn hl (.own r a b)=[]:=rfl
theorem VB(a:List AV):jn hl (.agg a)=[]:=rfl
theorem VC(n o:Nat):jn hl (.ptr n o)=dn hl [.ptr n o]:=rfl
theorem VD(a b c d e:Nat):jn hl (.aE a b c d e)=dn hl [.aE a b c d e]:=rfl
end
attribute [simp] Vw Vx Vq Vr Vs Vt Vu Vv Vy Vz VA VB VC VD
attribute [simp] UE x_ jP fm dd fV dY dC AK.gA ei.gA gz jo qj ky qd vH bX ea newName rH eP bE xO fW gK eE nb pX dn hD AV.lu AV.pR rz AV.elems AV.mZ ow iv tl setAt List.getD D.fits bound iw Tl Tn
section
variable (ρ:Nat->Nat) (N:Nat->Option Nat) (ok:Nat->Bool) (k:Nat)
theorem Co(x y:D):aq ρ N ok k (.d x) (.d y)=aB x y:=by cases k <;> simp [aq]
theorem VE(r b:Nat)(c:List D)(a d:Nat)(e:List D):aq ρ N ok k (.own r b c) (.own a d e)=(r=ρ a/\b=d/\c=e/\ok a=true/\N a=none):=by cases k <;> simp [aq]
theorem VF(a r b:Nat)(c:List D):aq ρ N ok k (.d (.nil a)) (.own r b c)=(a=b/\c=[]/\N r=some a):=by cases k <;> simp [aq]
theorem VG(r a:Nat)(b:List D)(y:D):aq ρ N ok k (.own r a b) (.d y)=aB (.sl a b) y:=by cases k <;> simp [aq]
theorem VH(n o a b:Nat):aq ρ N ok k (.ptr n o) (.ptr a b)=(n=ρ a/\o=b/\ok a=true):=by cases k <;> simp [aq]
theorem v_(n o z l c a b d e f:Nat):aq ρ N ok k (.aE n o z l c) (.aE a b d e f)=(n=ρ a/\o=b/\z=d/\l=e/\c=f/\ok a=true):=by cases k <;> simp [aq]
@[simp] theorem ahZ(r b n a c d:Nat):aq ρ N ok k (.spare r b n) (.spare a c d)=(r=ρ a/\b=c/\n=d/\ok a=true/\N a=none):=by cases k <;> simp [aq]
@[simp] theorem ah0(n a:Nat):aq ρ N ok k (.mp n) (.mp a)=(n=ρ a/\ok a=true):=by cases k <;> simp [aq]
theorem VI(b a:List AV):aq ρ N ok (k+1) (.agg b) (.agg a)=(aq.ba ρ N ok k b a/\∀ c∈a,c.one=true):=by simp only [aq]
theorem VJ(b:List AV)(a:List D):aq ρ N ok (k+1) (.agg b) (.d (.agg a))=(aq.ba ρ N ok k b (a.map .d)/\∀ c∈a,c.one=true):=by simp only [aq]
theorem VK(b:List D)(a:List AV):aq ρ N ok (k+1) (.d (.agg b)) (.agg a)=(aq.ba ρ N ok k (b.map .d) a/\∀ c∈a,c.one=true):=by simp only [aq]
theorem VL(a b:List AV):aq ρ N ok (k+1) (.af a) (.af b)=aq.ba ρ N ok k a b:=by simp only [aq]
theorem VM(a:List AV)(b:List D):aq ρ N ok (k+1) (.af a) (.d (.af b))=aq.ba ρ N ok k a (b.map .d):=by simp only [aq]
theorem VN(f c:Fn)(a b d e:List AV):aq ρ N ok (k+1) (.fn f a b) (.fn c d e)=(f=c/\aq.ba ρ N ok k a d/\aq.ba ρ N ok k b e):=by simp only [aq]
theorem VO(f c:Fn)(a b:List AV)(d e:List D):aq ρ N ok (k+1) (.fn f a b) (.d (.fn c d e))=(f=c/\aq.ba ρ N ok k a (d.map .d)/\aq.ba ρ N ok k b (e.map .d)):=by simp only [aq]
theorem Cp:aq.ba ρ N ok k [] []=True:=by simp only [aq.ba]
theorem Cq(c a:AV)(r b:List AV):aq.ba ρ N ok k (c::r) (a::b)=(aq ρ N ok k c a/\aq.ba ρ N ok k r b):=by simp only [aq.ba]
end
theorem VP:cq []=some []:=rfl
theorem VQ(x:D)(r:List AV):cq (.d x::r)=(cq r).map (x::·):=rfl
theorem VR(a b:Nat)(e:List D)(r:List AV):cq (.own a b e::r)=none:=rfl
theorem VS(a:List AV)(r:List AV):cq (.agg a::r)=none:=rfl
theorem VT(a:List AV)(r:List AV):cq (.af a::r)=none:=rfl
@[simp] theorem ah1(a b c:Nat)(r:List AV):cq (.spare a b c::r)=none:=rfl
@[simp] theorem ah2(a:Nat)(r:List AV):cq (.mp a::r)=none:=rfl
theorem VU(a b:Nat)(r:List AV):cq (.ptr a b::r)=none:=rfl
theorem JE(a b c d e:Nat)(r:List AV):cq (.aE a b c d e::r)=none:=rfl
theorem VV(f:Fn)(a b:List AV)(r:List AV):cq (.fn f a b::r)=none:=rfl
attribute [simp] VP VQ VR VS VT VU JE VV
theorem VW(z:List AV):pS z [] []=z:=rfl
theorem VX(z:List AV)(a c:Nat)(o:aO)(ps:List (Nat×Nat×aO))(v:AV)(b:List AV):pS z ((a,c,o)::ps) (v::b)=pS (setAt z a v.cells) ps b:=rfl
theorem VY(n:Nat):mY [] [] n=True:=rfl
theorem VZ(n:Nat)(b a:Nat)(o:aO)(ps:List (Nat×Nat×aO))(v:AV)(c:List AV):mY ((b,a,o)::ps) (v::c) n=(v.cells.length=a/\v.cg=true/\b+a<=n/\mY ps c n):=rfl
theorem V_:hz [] [] []=True:=rfl
theorem V'(k k1 k2:IntKind)(a b:Int)(c:List SK)(d e:List D):hz (.int k::c) (.lit (.int k1 a)::d) (.lit (.int k2 b)::e)=(k1=k/\k2=k/\hz c d e):=rfl
theorem Wa(a b:Bool)(c:List SK)(d e:List D):hz (.bool::c) (.lit (.bool a)::d) (.lit (.bool b)::e)=hz c d e:=rfl
theorem Wb(a b:ByteArray)(c:List SK)(d e:List D):hz (.str::c) (.lit (.string a)::d) (.lit (.string b)::e)=hz c d e:=rfl
theorem Wc:gC [] []=true:=rfl
theorem We(k e:IntKind)(a b:Int)(c d:List D):gC (.lit (.int k a)::c) (.lit (.int e b)::d)=(a == b&&gC c d):=rfl
theorem Wf(a b:Bool)(c d:List D):gC (.lit (.bool a)::c) (.lit (.bool b)::d)=(a == b&&gC c d):=rfl
theorem Wg(a b:ByteArray)(c d:List D):gC (.lit (.string a)::c) (.lit (.string b)::d)=(decide (a=b)&&gC c d):=rfl
attribute [simp] Co VE VF VG VH v_ VI VJ VK VL VM VN VO Cp Cq VW VX VY VZ V_ V' Wa Wb Wc We Wf Wg
@[simp] theorem ah3(a:List D):tm true a=.agg a:=rfl
@[simp] theorem ah4(e:D)(a:List D):tm false (e::a)=e:=rfl
@[simp] theorem ah5(a:Nat):(AV.e0 a).cells=[.e0 a]:=rfl
@[simp] theorem ah6(a:Nat):(AV.e0 a).one=true:=rfl
@[simp] theorem ah7(a:Nat):(AV.e0 a).cg=true:=rfl
@[simp] theorem ah8(a:Nat)(r:List AV):cq (.e0 a::r)=none:=rfl
@[simp] theorem ah9(b:Nat->Nat)(N:Nat->Option Nat)(c:Nat->Bool)(k:Nat)(z a:Nat):aq b N c k (.e0 z) (.e0 a)=(z=a):=by cases k <;> simp [aq]
theorem JF:∀ a:List D,hD (a.map .d)=some a
 | []=>rfl
 | d::a=>by simp only [bo,hD,AV.lu,JF a]
@[simp] theorem ah_(a:List D):hD (wr a)=some (D.flat a):=JF _
theorem tS:∀ a:List D,cq (a.map .d)=some a
 | []=>rfl
 | d::a=>by simp only [bo,cq,tS a,Option.map]
@[simp] theorem ah'(a:List D):cq (wr a)=some (D.flat a):=tS _
@[simp] theorem aia(a:List D):(wr a).length=(D.flat a).length:=by simp [wr]
theorem js(b:Nat->Nat)(N:Nat->Option Nat)(c:Nat->Bool)(k:Nat):∀ a:List D,aq.ba b N c k (a.map .d) (a.map .d)
 | []=>by simp only [aq.ba,hY]
 | d::a=>by simp only [aq.ba,bo];exact⟨by cases k <;> simp only [aq] <;> exact aB.refl d,js b N c k a⟩
@[simp] theorem aib(a:Nat->Nat)(N:Nat->Option Nat)(b:Nat->Bool)(k:Nat)(c:List D):aq.ba a N b k (wr c) (wr c)=True:=fi (js a N b k _)
theorem Cr{a:List D}(h:∀ c∈D.flat a,c.one=true):∀ c∈wr a,c.one=true:=fun c b=>by simp only [wr,aS] at b;obtain⟨d,e,rfl⟩:=b;exact h d e
theorem Wh:∀ {c:List D}{i:Nat}{a b:D},(∀ e∈c,e.cells.length=2)->c[i]?=some (.agg [a,b])->(D.flat c)[i*2]?=some a/\(D.flat c)[i*2+1]?=some b:=fun {c i a b} d h=>by have f:=flat_get d h 0 (by omega);have g:=flat_get d h 1 (by omega);exact⟨by simpa [D.cells] using f,by simpa [D.cells] using g⟩
theorem Wi{c:List D}{i:Nat}{a b:D}(f:∀ e∈c,e.cells.length=2)(h:c[i]?=some (.agg [a,b])):((wr c).drop (i*2)).take 2=[.d a,.d b]/\(wr c)[i*2]?=some (.d a)/\(wr c)[i*2+1]?=some (.d b):=by
 obtain⟨g,j⟩:=Wh f h;have d:(wr c)[i*2]?=some (.d a):=by simp [wr,g]
 have q1:(wr c)[i*2+1]?=some (.d b):=by simp [wr,j]
 refine⟨?_,d,q1⟩;refine sY fun k=>?_
 match k with
 | 0=>simpa [eh,fD] using d
 | 1=>simpa [eh,fD] using q1
 | k+2=>simp [eh];omega
theorem JG:∀ {es:List D}{i:Nat}(a b:D),(∀ e∈es,e.cells.length=2)->i<es.length->((wr es).set (i*2) (.d a)).set (i*2+1) (.d b)=wr (es.set i (.agg [a,b]))
 | [],i,a,b,_,h=>by simp at h
 | e::es,i,a,b,f,h=>by
  have d:=f e (by simp);have g:∀ (x:D) (l:List D),wr (x::l)=x.cells.map .d++wr l:=fun x l=>by simp [wr,D.flat]
  obtain⟨x,y,j⟩:∃ x y,e.cells=[x,y]:=by
   generalize e.cells=c at d
   match c,d with
   | [x,y],_=>exact⟨x,y,rfl⟩
  cases i with
  | zero =>have k:(D.agg [a,b]).cells=[a,b]:=rfl;simp only [AS,g,j,k,Nat.zero_mul,bC,bo,hY,dX,gx,xD]
  | succ i =>have m:=JG (es:=es) (i:=i) a b (fun e d=>f e (by simp [d])) (by simpa using h);simp only [xD,g,j,bo,hY,dX,gx];rw [show (i+1)*2=i*2+1+1 by omega,show i*2+1+1+1=(i*2+1)+1+1 by omega];simp only [xD];rw [m]
theorem Wj(t:Nat):bn [] t=none:=by unfold bn;exact rfl
theorem Wk(t:Nat)(e:Bool×AV)(r:List (Nat×Bool×AV)):bn ((t,e)::r) t=some e:=by
 have:∀ a,a=t->bn ((a,e)::r) t=some e:=fun a h=>by rw [bn];exact aj h.symm
 exact this t rfl
theorem Wl{t a:Nat}(h:(t == a)=false)(e:Bool×AV)(r:List (Nat×Bool×AV)):bn ((a,e)::r) t=bn r t:=by rw [bn];exact ab (by simpa using h)
theorem look_nil(n:Nat):look [] n=none:=by unfold look;exact rfl
theorem tT(n:Nat)(o:HO)(r:List (Nat×HO)):look ((n,o)::r) n=some o:=by
 have:∀ a,a=n->look ((a,o)::r) n=some o:=fun a h=>by rw [look];exact aj h.symm
 exact this n rfl
theorem Wm{n a:Nat}(h:(n == a)=false)(o:HO)(r:List (Nat×HO)):look ((a,o)::r) n=look r n:=by rw [look];exact ab (by simpa using h)
theorem Wn(n:Nat)(o:HO):aM [] n o=[(n,o)]:=by unfold aM;exact rfl
theorem Cs(n:Nat)(o x:HO)(r:List (Nat×HO)):aM ((n,x)::r) n o=(n,o)::r:=by
 have:∀ a,a=n->aM ((a,x)::r) n o=(a,o)::r:=fun a h=>by subst h;rw [aM];exact aj rfl
 exact this n rfl
theorem Wo{n a:Nat}(h:(n == a)=false)(o x:HO)(r:List (Nat×HO)):aM ((a,x)::r) n o=(a,x)::aM r n o:=by rw [aM];exact ab (by simpa using h)
attribute [simp] Wj Wk Wl look_nil tT Wm Wn Cs Wo
theorem kC{P:Program}:∀ (f:FuncId) (a:List D) (b:Out),(fun(_:FuncId) (_:List D) (_:Out)=>False) f a b->dO P f a b:=fun _ _ _ h=>h.elim
theorem wrap64{n:Int}(h:-9223372036854775808<=n/\n<=9223372036854775807):IntKind.i64.wrap n=n:=by simp [IntKind.wrap,IntKind.bits,IntKind.signed];omega
theorem wS(n:Nat)(h:(n:Int)+1<=9223372036854775807):IntKind.i64.wrap ((n:Int)+1)=(n:Int)+1:=wrap64 (by omega)
def dI(n:Int):D:=.lit (.int .i64 n)
def dB(b:Bool):D:=.lit (.bool b)
attribute [simp] dI dB
def v'(C:FuncId->List D->Out->Prop)(c:D->St->Prop)(K:List Rec->St->Prop):List Out->List aF->St->List Rec->Prop
 | _,[],a,e=>K e a
 | h,b::r,a,e=>match b.k with
  | .call f i=>match h with
   | []=>False
   | o::l=>match fm a.s b.guard with
    | none=>False
    | some (g,m)=>match dd a.s (f::i) with
     | some (n,p::q)=>match fW p q with
      | some (s,j)=>match gK a.h j with
       | some (t,k)=>(g=true->eP n/\C s t o)/\match o with
        | .ret d=>(k=true->fo d)/\v' C c K l r ⟨bX a.s b.dst (g,.d d),a.h,a.d⟩ (e++[⟨b.dst,m++bE a.s (f::i),g,.d d,eE a.h j,[]⟩])
        | .aQ d=>g=true/\(k=true->fo d)/\c d a
        | .fa w=>False
        | .fH _ _=>False
        | .fA _ _ _ _=>False
       | none=>False
      | none=>False
     | _=>False
  | _=>jP C a b (fun d=>c d a) (fun u v=>v' C c K h r v (e++[u]))
section
variable {P:Program}{cx:Cx}{Q:AE->St->Prop}{σ:St}
def jV(P:Program)(cx:Cx)(a:Option (List (List Nat)))(b:List aF)(Q:AE->St->Prop)(σ:St):Prop:=bL P cx (.region a b) Q σ
theorem Wp{a:List aF}:vc P cx (.region none a) Q σ=if waits a=true then jV P cx none a Q σ else ec false cx.C (fun d σ=>Q (.aQ d) σ) (fun _ σ=>Q .normal σ) [] (marks a) σ []:=by by_cases h:waits a=true <;> simp [h,jV,eR,vc]
theorem Wq{b:List (List Nat)}{a:List aF}:vc P cx (.region (some b) a) Q σ=if waits a=true then jV P cx (some b) a Q σ else ec true cx.C (fun _ _=>False) (fun R c=>de R b=true/\Q .normal c) [] (marks a) σ []:=by by_cases h:waits a=true <;> simp [h,jV,eR,vc]
theorem Wr{a:List aF}(h:g_ cx.C (fun d σ=>Q (.aQ d) σ) (fun _ σ=>Q .normal σ) a σ [])(b:waits a=true:=by rfl):jV P cx none a Q σ:=by unfold jV;rw [eR];unfold vc;rw [aj b];exact h
theorem Ws{b:List (List Nat)}{a:List aF}(h:g_ cx.C (fun _ _=>False) (fun R c=>gM R b=true/\Q .normal c) a σ [])(d:waits a=true:=by rfl):jV P cx (some b) a Q σ:=by unfold jV;rw [eR];unfold vc;rw [aj d];exact h
end
section
variable {P:Program}{cx:Cx}{Q:AE->St->Prop}{s:List (Nat×Bool×AV)}{h:List (Nat×HO)}{d:List DE}
theorem go_region{ops:List aF}:bL P cx (.region none ops) Q ⟨s,h,d⟩=if waits ops=true then jV P cx none ops Q ⟨s,h,d⟩ else eQ false cx.C (fun d σ=>Q (.aQ d) σ) (fun _ σ=>Q .normal σ) [] (marks ops) ⟨s,h,d⟩ []:=by rw [lz,eR];exact Wp
theorem Wt{bf:List (List Nat)}{ops:List aF}:bL P cx (.region (some bf) ops) Q ⟨s,h,d⟩=if waits ops=true then jV P cx (some bf) ops Q ⟨s,h,d⟩ else eQ true cx.C (fun _ _=>False) (fun R σ'=>de R bf=true/\Q .normal σ') [] (marks ops) ⟨s,h,d⟩ []:=by rw [lz,eR];exact Wq
end
attribute [simp] waits v' go_region Wt
section
variable {P:Program}{cx:Cx}{Q:AE->St->Prop}{σ:St}
theorem ah(b:List Out){a:List aF}(h:eQ false cx.C (fun d σ=>Q (.aQ d) σ) (fun _ σ=>Q .normal σ) b (marks a) σ [])(c:waits a=true:=by rfl):jV P cx none a Q σ:=Wr (Jb (by rw [lz] at h;exact h)) c
theorem bY(c:List Out){b:List (List Nat)}{a:List aF}(h:eQ true cx.C (fun _ _=>False) (fun R d=>de R b=true/\Q .normal d) c (marks a) σ [])(e:waits a=true:=by rfl):jV P cx (some b) a Q σ:=Ws (Jc (by rw [lz] at h;exact h)) e
def hF(s:List (Nat×Bool×AV)):List Nat->List (Nat×Bool×AV)
 | []=>[]
 | k::a=>match bn s k with
  | some e=>(k,e)::hF s a
  | none=>hF s a
def tU(h:List (Nat×HO)):List (Nat×HO)->List (Nat×HO)
 | []=>h
 | (n,o)::r=>tU (aM h n o) r
theorem bm{b:AC}(a:List Nat)(X:Type)(c:X->List (Nat×Bool×AV))(d:X->List (Nat×HO))(I:X->Prop)(g:X->Nat)(e:X)(i:I e)(j:Sub cx.B σ ⟨c e++hF σ.s a,tU σ.h (d e),σ.d⟩)(h:∀ x,I x->bL P cx b (fp (fun k=>∃ f,I f/\g f<g x/\Sub cx.B k ⟨c f++hF σ.s a,tU σ.h (d f),σ.d⟩) Q) ⟨c x++hF σ.s a,tU σ.h (d x),σ.d⟩):bL P cx (.loop b) Q σ:=by rw [eR] at h |-;exact⟨X,fun x=>⟨c x++hF σ.s a,tU σ.h (d x),σ.d⟩,I,g,⟨e,i,j⟩,h⟩
end
section
variable {P:Program}{cx:Cx}{Q:AE->St->Prop}{σ σ':St}{C:FuncId->List D->Out->Prop}
theorem Wu{c:AC}(h:σ=σ'):bL P cx c Q σ=bL P cx c Q σ':=by rw [h]
theorem Wv{a:Option (List (List Nat))}{b:List aF}(h:σ=σ'):jV P cx a b Q σ=jV P cx a b Q σ':=by rw [h]
theorem Ww{K:St->Prop}{e a:AE}(h:e=a)(b:σ=σ'):fp K Q e σ=fp K Q a σ':=by rw [h,b]
theorem Wx{id:Nat}{e a:AE}(h:e=a)(b:σ=σ'):iR id Q e σ=iR id Q a σ':=by rw [h,b]
theorem Wy{a:AF}{K:bK->List (Nat×HO)->Prop}{e b:AE}(h:e=b)(c:σ=σ'):ni P C a K e σ=ni P C a K b σ':=by rw [h,c]
theorem WA{a:AF}{K:bK->List (Nat×HO)->Prop}{u b:Option D}{d c:List DE}{s e:List (Nat×Bool×AV)}{f g:List (Nat×HO)}(h:u=b)(i:d=c)(j:s=e)(k:f=g):gn P C a K u d s f=gn P C a K b c e g:=by rw [h,i,j,k]
theorem WB{a:AF}{K:bK->List (Nat×HO)->Prop}{u b:Option D}{d:List DE}{s:List (Nat×Bool×AV)}{c e:List (Nat×HO)}(h:u=b)(f:c=e):yu P C a K d s u c=yu P C a K d s b e:=by rw [h,f]
theorem WC{a:List RV}{K:Option D->List (Nat×HO)->Prop}{u b:Option D}{e c:AE}(d:u=b)(h:e=c)(f:σ=σ'):rQ a K u e σ=rQ a K b c σ':=by rw [d,h,f]
theorem WD{a:List RV}{K:Option D->List (Nat×HO)->Prop}{u b:Option D}{e c:AE}(d:u=b)(h:e=c)(f:σ=σ'):qi a K u e σ=qi a K b c σ':=by rw [d,h,f]
theorem WE{a:aF}{b:D->Prop}{K:Rec->St->Prop}(h:σ=σ'):jP C σ a b K=jP C σ' a b K:=by rw [h]
theorem WG{a:List aF}{b:D->St->Prop}{K:List Rec->St->Prop}{R c:List Rec}(h:σ=σ')(d:R=c):x_ C b K a σ R=x_ C b K a σ' c:=by rw [h,d]
theorem WH{a:List aF}{b:D->St->Prop}{K:List Rec->St->Prop}{c d:List Out}{R e:List Rec}(f:c=d)(h:σ=σ')(g:R=e):v' C b K c a σ R=v' C b K d a σ' e:=by rw [f,h,g]
theorem WI{a:Bool}{b c:List (Bool×aF)}{d:D->St->Prop}{K:List Li->St->Prop}{e f:List Out}{R g:List Li}(i:e=f)(j:b=c)(h:σ=σ')(k:R=g):eQ a C d K e b σ R=eQ a C d K f c σ' g:=by rw [i,j,h,k]
end
attribute [congr] SS Wu Wv UP Ww Wx Wy WA WB WC WD WE WG WH WI
theorem WJ:marks []=[]:=by rw [marks]
theorem WK(o:aF)(r:List aF):marks (o::r)=(BT o.dst r,o)::marks r:=by rw [marks]
attribute [simp] BT WJ WK SQ SR gN hF tU ai jQ fX ma aw bc cj bg
theorem JH:∃ f:(Program->Cx->(AE->St->Prop)->List Out->List (Bool×aF)->St->Prop),f=cX:=⟨_,rfl⟩
noncomputable def gq:Program->Cx->(AE->St->Prop)->List Out->List (Bool×aF)->St->Prop:=Classical.choose JH
theorem qo:gq=cX:=xJ JH
def wa(P:Program)(a:Cx)(b:List aF)(Q:AE->St->Prop)(c:St):Prop:=bL P a (.aY b) Q c
theorem aK{P:Program}{a:Cx}{b:List aF}{Q:AE->St->Prop}{c:St}(d:List Out)(h:gq P a Q d (marks b) c):wa P a b Q c:=by unfold wa;rw [eR];exact⟨d,by rw [qo] at h;exact h⟩
theorem WL(P:Program)(b:Cx)(Q:AE->St->Prop)(a:List Out)(s:List (Nat×Bool×AV))(h:List (Nat×HO))(d:List DE):gq P b Q a [] ⟨s,h,d⟩=Q .normal ⟨s,h,d⟩:=by rw [qo];cases a <;> rw [cX]
theorem WM(P:Program)(a:Cx)(Q:AE->St->Prop)(b:List Out)(fl:Bool)(g:Option Nat)(q:Option (Nat×Bool))(k:AK)(r:List (Bool×aF))(s:List (Nat×Bool×AV))(h:List (Nat×HO))(d:List DE) :
  gq P a Q b ((fl,⟨g,q,k⟩)::r) ⟨s,h,d⟩=(match fm s q with
  | none=>False
  | some (false,_)=>match k with
   | .call _ _=>gq P a Q b.tail r ⟨bX s g (false,.d (.lit (.bool false))),h,d⟩
   | .panic _ | .defer _ _=>False
   | _=>gq P a Q b r ⟨bX s g (false,.d (.lit (.bool false))),h,d⟩
  | some (true,_)=>match k with
   | .call f m=>match b with
    | []=>False
    | o::z=>match dd s (f::m) with
     | some (j,n::i)=>match fW n i with
      | some (u,v)=>match gK h v with
       | some (A,w)=>(eP j/\a.C u A o)/\match o with
        | .ret p=>(w=true->fo p)/\gq P a Q z r ⟨bX s g (true,.d p),h,d⟩
        | .aQ p=>(w=true->fo p)/\Q (.aQ p) ⟨s,h,d⟩
        | .fH _ _=>False
        | .fA _ _ _ _=>False
        | .fa B=>w=false/\gq P a Q z r ⟨bX s g (true,.mp (newName h)),ea h [(newName h,.aA (B.map fun e=>(e.1,AV.d e.2)))],d⟩
       | none=>False
      | none=>False
     | _=>False
   | .op x=>match dd s x.gA with
    | none=>False
    | some (j,i)=>match dY h x i with
     | none=>False
     | some e=>(rH x j i/\e.c)/\match fl with
      | true=>(match g,e.v with
       | some t,.d (.lit (.bool c))=>(if c=true then gq P a Q b r ⟨(t,true,.d (.lit (.bool true)))::s,ea h e.up,d⟩ else True) /\(if c=false then gq P a Q b r ⟨(t,true,.d (.lit (.bool false)))::s,ea h e.up,d⟩ else True)
       | _,_=>False)
      | false=>gq P a Q b r ⟨bX s g (true,e.v),ea h e.up,d⟩
   | .bl f m=>match dd s (f::m) with
    | some (j,n::i)=>eP j/\match fW n i with
     | some (u,v)=>vJ P a (gq P a Q b r) Q g s h d u v
     | none=>False
    | _=>False
   | .hC f m=>match dd s (f::m) with
    | some (j,.d (.fn (.yield l) [] [])::i)=>eP j/\l=a.l/\a.Y i h (BU (gq P a Q b r) g s d)
    | _=>False
   | .panic x=>q=none/\match fV s x with
    | some (true,.d (.cQ t y))=>Q (.aQ (.cQ t y)) ⟨s,h,d⟩
    | _=>False
   | .defer f m=>q=none/\g=none/\a.top=true/\match dd s (f::m) with
    | some (j,n::i)=>eP j/\match vI n i with
     | some C=>gq P a Q b r ⟨s,h,C::d⟩
     | none=>False
    | _=>False):=by
 simp only [qo]
 conv=>lhs;unfold cX
 rfl
def oK(P:Program)(a:Cx)(b:List (List Nat))(k:Nat)(c:List aF)(Q:AE->St->Prop)(d:St):Prop:=bL P a (.mb b k c) Q d
theorem oL{P:Program}{a:Cx}{c:List (List Nat)}{k:Nat}{b:List aF}{Q:AE->St->Prop}{d:St}(e f:List Out)(h:eQ true a.C (fun _ _=>False) (fun R g=>de R c=true/\gq P a Q f (marks (b.drop k)) g) e (marks (b.take k)) d []):oK P a c k b Q d:=by unfold oK;rw [eR];exact⟨e,f,by rw [lz,qo] at h;exact h⟩
def lB(P:Program)(a:Cx)(b:List (List Nat))(k m:Nat)(c:List aF)(Q:AE->St->Prop)(d:St):Prop:=bL P a (.oC b k m c) Q d
theorem rW{P:Program}{a:Cx}{d:List (List Nat)}{k m:Nat}{b:List aF}{Q:AE->St->Prop}{f:St}(g i j:List Out)(h:eQ true a.C (fun _ _=>False) (fun R l=>rO P a d R (b[k-1]?) (fun e c=>qf R l.h e.h/\c R) (fun n e=>eQ true a.C (fun _ _=>False) (fun o p=>de o d=true/\gq P a Q j (marks (b.drop m)) p) i (marks ((b.drop k).take (m-k))) e n) Q l) g (marks (b.take (k-1))) f [])(q:0<k:=by decide):lB P a d k m b Q f:=by unfold lB;rw [eR];exact .inr ⟨q,false,g,i,j,by rw [lz,qo] at h;exact h⟩
theorem WN{P:Program}{a:Cx}{e:List (List Nat)}{k m:Nat}{b:List aF}{Q:AE->St->Prop}{d:St}(f j n:List Out)(h:eQ true a.C (fun _ _=>False) (fun R o=>rO P a e R (b[k-1]?) (fun g c=>eQ true a.C (fun _ _=>False) (fun L i=>i.s=o.s/\(L.all fun l=>l.up.isEmpty)=true/\L.map (·.dst)=R.map (·.dst)/\c L) f (marks (b.take (k-1))) ⟨d.s,g.h,d.d⟩ []) (fun p g=>eQ true a.C (fun _ _=>False) (fun q i=>de q e=true/\gq P a Q n (marks (b.drop m)) i) j (marks ((b.drop k).take (m-k))) g p) Q o) f (marks (b.take (k-1))) d [])(r:0<k:=by decide):lB P a e k m b Q d:=by unfold lB;rw [eR];exact .inr ⟨r,true,f,j,n,by rw [lz,qo] at h;exact h⟩
theorem WO{P:Program}{a:Cx}{c:List (List Nat)}{k m:Nat}{b:List aF}{Q:AE->St->Prop}{d:St}(e f:List Out)(h:eQ true a.C (fun _ _=>False) (fun R g=>de R c=true/\gq P a Q f (marks (b.drop m)) g) e (marks (b.take m)) d []):lB P a c k m b Q d:=by unfold lB;rw [eR];exact .inl ⟨e,f,by rw [lz,qo] at h;exact h⟩
def wc(P:Program)(a:Cx)(b:List (List Nat))(k:Nat)(c:List aF)(Q:AE->St->Prop)(d:St):Prop:=bL P a (.p' b k c) Q d
theorem JI{P:Program}{b:Cx}{d:List (List Nat)}{k:Nat}{a:List aF}{Q:AE->St->Prop}{e:St}(f g i:List Out)(h:eQ true b.C (fun _ _=>False) (fun R j=>tK P b d R (a[k-1]?) ((a.drop k).take 1) (fun c=>gq P b Q g (marks (a.drop (k+1))) c) (fun c=>gq P b Q i (marks (a.drop k)) c) Q j) f (marks (a.take (k-1))) e [])(l:0<k:=by decide):wc P b d k a Q e:=by unfold wc;rw [eR];exact⟨l,f,g,i,by rw [lz,qo] at h;exact h⟩
def JJ(b:Nat)(B:Nat->(AE->St->Prop)->St->Prop)(K:Bool->List (Nat×HO)->Prop)(h:List (Nat×HO)):AE->St->Prop:=fun e a=>match e with
 | .normal=>look a.h b=some (.obj 1)/\B (newName h) (rN b K) ⟨a.s,aM a.h b (.obj 2),a.d⟩
 | _=>False
section
variable {P:Program}{cx:Cx}{Q:AE->St->Prop}{s:List (Nat×Bool×AV)}{h:List (Nat×HO)}{d:List DE}{R:St->Prop}
theorem WQ(ops:List aF):bL P cx (.aY ops) Q ⟨s,h,d⟩=wa P cx ops Q ⟨s,h,d⟩:=rfl
theorem WR(bf:List (List Nat))(k:Nat)(ops:List aF):bL P cx (.mb bf k ops) Q ⟨s,h,d⟩=oK P cx bf k ops Q ⟨s,h,d⟩:=rfl
theorem WS(bf:List (List Nat))(k m:Nat)(ops:List aF):bL P cx (.oC bf k m ops) Q ⟨s,h,d⟩=lB P cx bf k m ops Q ⟨s,h,d⟩:=rfl
theorem WT(bf:List (List Nat))(k:Nat)(ops:List aF):bL P cx (.p' bf k ops) Q ⟨s,h,d⟩=wc P cx bf k ops Q ⟨s,h,d⟩:=rfl
theorem WU{a:List (List Nat)}{k:Nat}{b:List aF}{c d:St}(h:c=d):wc P cx a k b Q c=wc P cx a k b Q d:=by rw [h]
theorem WV{a:List (List Nat)}{k m:Nat}{b:List aF}{c d:St}(h:c=d):lB P cx a k m b Q c=lB P cx a k m b Q d:=by rw [h]
theorem WW{c:List (List Nat)}{L:List Li}{a:Option Nat}{e:Option (Nat×Bool)}{f:aO}{b:List aO}{S:St->(List Li->Prop)->Prop}{K:List Li->St->Prop}:rO P cx c L (some ⟨a,e,.bl f b⟩) S K Q ⟨s,h,d⟩=((L.all fun l=>l.up.isEmpty)=true/\match fm s e with
  | some (true,g)=>de (⟨a,(g++bE s (f::b)).map (·.1),[],[]⟩::L) c=true/\match dd s (f::b) with
   | some (j,k::m)=>eP j/\match fW k m with
    | some (n,o)=>jR P cx (fun i=>S i (fun L=>K (⟨a,(g++bE s (f::b)).map (·.1),[],[]⟩::L) i)) Q a s h d n o
    | none=>False
   | _=>False
  | _=>False):=rfl
theorem WX{e:List (List Nat)}{L:List Li}{a:Option Nat}{f:aO}{b:List aO}{g:List aF}{i j:St->Prop}:tK P cx e L (some ⟨a,none,.bl f b⟩) g i j Q ⟨s,h,d⟩=match dd s (f::b) with
  | some (o,p::q)=>eP o/\match fW p q with
   | some (k,m)=>jR P cx j Q a s h d k m /\eQ true cx.C (fun _ _=>False) (fun n c=>((n.head?.any fun l=>l.rs.isEmpty&&l.ao.isEmpty)=true/\de n e=true)/\jR P cx i Q a c.s c.h c.d k m) [] (marks g) ⟨s,h,d⟩ (⟨a,(bE s (f::b)).map (·.1),[],[]⟩::L)
   | none=>False
  | _=>False:=by rw [lz];rfl
theorem WY{a:Option Nat}{s b:List (Nat×Bool×AV)}{h c:List (Nat×HO)}{d e:List DE}{f:FuncId}{g i:List AV}(j:s=b)(k:h=c)(l:d=e)(m:g=i):jR P cx R Q a s h d f g=jR P cx R Q a b c e f i:=by rw [j,k,l,m]
theorem WZ{a:Option Nat}{v:AV}{b:List (Nat×HO)}:yg R Q a s d (.ret v) b=R ⟨bX s a (true,v),b,d⟩:=rfl
theorem W_{b:Option Nat}{x:D}{a:List (Nat×HO)}:yg R Q b s d (.aQ x) a=Q (.aQ x) ⟨[],a,d⟩:=rfl
theorem W'{h a:List (Nat×HO)}:qf [] h a=True:=by simp [qf]
theorem Xa{l:Li}{L:List Li}{h a:List (Nat×HO)}:qf (l::L) h a=((∀ n∈l.ao,look a n=look h n)/\qf L h a):=by simp [qf]
theorem Xb{a:List (List Nat)}{k:Nat}{b:List aF}{c d:St}(h:c=d):oK P cx a k b Q c=oK P cx a k b Q d:=by rw [h]
theorem Xc{a:Option Nat}{v:AV}{b:List (Nat×HO)}:yf R Q a s d (.ret v) b=R ⟨bX s a (true,v),b,d⟩:=rfl
theorem Xd{b:Option Nat}{x:D}{a:List (Nat×HO)}:yf R Q b s d (.aQ x) a=Q (.aQ x) ⟨s,a,d⟩:=rfl
theorem Xe{a:Option Nat}{b:Bool}{c:List (Nat×HO)}:BU R a s d b c=R ⟨bX s a (true,.d (.lit (.bool b))),c,d⟩:=rfl
theorem Xf{a:List aF}{b c:St}(h:b=c):wa P cx a Q b=wa P cx a Q c:=by rw [h]
theorem Xg{a:Option Nat}{s b:List (Nat×Bool×AV)}{h c:List (Nat×HO)}{d e:List DE}{f:FuncId}{g i:List AV}(j:s=b)(k:h=c)(l:d=e)(m:g=i):vJ P cx R Q a s h d f g=vJ P cx R Q a b c e f i:=by rw [j,k,l,m]
theorem Xh{a b:List (Bool×aF)}{c d:List Out}{e f:St}(g:c=d)(i:a=b)(h:e=f):gq P cx Q c a e=gq P cx Q d b f:=by rw [g,i,h]
theorem Xi{ps:List Nat}{a:Nat}{A B:Nat->(AE->St->Prop)->St->Prop}{b:List AV}{K:Bool->List (Nat×HO)->Prop} :
  vL ps a s A B b h K=(look h a=some (.obj 1)/\b.length=ps.length/\A (newName h) (JJ a B K h) ⟨tJ s ps b,h,[]⟩):=rfl
theorem Xj{a:Nat}{B:Nat->(AE->St->Prop)->St->Prop}{K:Bool->List (Nat×HO)->Prop}{b:List (Nat×HO)}:JJ a B K b .normal ⟨s,h,d⟩=(look h a=some (.obj 1)/\B (newName b) (rN a K) ⟨s,aM h a (.obj 2),d⟩):=rfl
theorem Xk{a:Nat}{K:Bool->List (Nat×HO)->Prop}:rN a K .normal ⟨s,h,d⟩=(look h a=some (.obj 2)/\K true (aM h a (.obj 1))):=rfl
theorem Xl{a:Nat}{K:Bool->List (Nat×HO)->Prop}:rN a K .ret ⟨s,h,d⟩=(look h a=some (.obj 2)/\K false (aM h a (.obj 3))):=rfl
theorem Xm{a i:Nat}{K:Bool->List (Nat×HO)->Prop}:rN a K (.exit i) ⟨s,h,d⟩=(look h a=some (.obj 2)/\K false (aM h a (.obj (i+4)))):=rfl
theorem Xn{a c:Nat}{x:D}{b:List (Nat×HO)}:vK a c s d Q (.aQ x) b=Q (.aQ x) ⟨s,b,.mark a::d⟩:=rfl
theorem Xo{c a:Nat}{v:AV}{b:List (Nat×HO)}:vK c a s d Q (.ret v) b=(match look b a with
  | some (.obj 1)=>Q .normal ⟨s,aM b a .dead,.mark c::d⟩
  | some (.obj 3)=>Q .ret ⟨s,aM b a .dead,.mark c::d⟩
  | some (.obj (id+4))=>Q (.exit id) ⟨s,aM b a .dead,.mark c::d⟩
  | _=>False):=rfl
theorem h'{g:aO}{ps:List Nat}{e b:AC}(T:Cx->List AV->List (Nat×HO)->(bK->List (Nat×HO)->Prop)->Prop){f:AV}{i:FuncId}{j:Nat->List AV}(m:cW P i T)(n:cx.top=true)(o:fV s g=some (true,f))(p:∀ a,fW f [.d (.fn (.yield a) [] [])]=some (i,j a))(k:∀ a,T {B:=newName h+2,top:=true,l:=a,C:=cx.C,Y:=vL ps (newName h+1) s (fun c=>bL P {cx with B:=c,top:=false} e) (fun c=>bL P {cx with B:=c,top:=false} b)}
   (j a) (aM (aM h (newName h) (.obj 0)) (newName h+1) (.obj 1)) (vK (newName h) (newName h+1) s d Q)):bL P cx (.range g ps e b) Q ⟨s,h,d⟩:=by
 rw [eR] at k |-;unfold vc;refine⟨n,?_⟩;simp only [o];intro a;simp only [p];exact⟨T,m,k a⟩
theorem Xp{a:AF}{b:List AV}{K:bK->List (Nat×HO)->Prop}:TF P a cx b h K=(b.length<=a.nt/\bL P cx a.body (ni P cx.C a K) ⟨jo b 0,h,[]⟩):=by rw [eR];rfl
end
attribute [congr] Xf Xb WV WU Xg WY Xh
attribute [simp] WQ WR WS WT WW WX iP WZ W_ W' Xa WL WM vI Xc Xd Xe Xi Xj Xk Xl Xm Xn Xo tJ Xp
def stop(l:List (Bool×aF)):List (Bool×aF):=l
def we:Nat->List (Bool×aF)->List (Bool×aF)
 | _,[]=>[]
 | 0,x::r=>stop (x::r)
 | k+1,x::r=>x::we k r
theorem Xq(k:Nat):we k []=[]:=by cases k <;> rfl
theorem Xr(x:Bool×aF)(r:List (Bool×aF)):we 0 (x::r)=stop (x::r):=rfl
theorem Xs(k:Nat)(x:Bool×aF)(r:List (Bool×aF)):we (k+1) (x::r)=x::we k r:=rfl
attribute [simp] Xq Xr Xs
section
variable {P:Program}{cx:Cx}{Q:AE->St->Prop}{σ:St}
end
end
section
open Go Go.Deep
section
variable {H:Type}{enc:TypeId×Value->H}{P:Program}{w:World}
def allI(w:World):Addr->Prop:=fun a=>(w.cell? a).isSome=true
def dR{a:Type}(enc:TypeId×Value->H)(P:Program)(w:World)(t:TypeId)(f:a->D):Prop :=
 ∀ (c:Nat) (b:List Value) (x:DataW H×List MemPlace),DataW.trod enc P w 0 (fun _=>true) true c t b=some x->∃ y:a,gX (allI w) w (f y).cells b.toArray
theorem nk{C:Type}{t e:TypeId}{f:C->D}{b:Nat}(T:P.underlying t=some (.slice e))(p:P.cellsOf e=b)(J:∀ y,(f y).cells.length=b)(q:∀ y,∀ c∈(f y).cells,c.one=true)(r:dR enc P w e f):dR enc P w t (fun l:List C=>.sl b (l.map f)):=by
 intro a2 cs x h;rcases open_slice T h with ⟨rfl,_⟩ | ⟨a,s,b0,m,n,b1,b2,rfl,_,U,V,K,_,W⟩
 ·refine⟨[],⟨rfl,fun k c v q L=>?_⟩⟩;cases k with
  | zero =>simp [D.cells] at q L;subst q;subst L;exact aB.nil b _ _ _ .nil
  | succ k=>simp [D.cells] at q
 ·rw [aj rfl] at K;subst K;have M:∀ i:Fin s,∃ y:C,∀ j c,(f y).cells[j]?=some c->∃ v,w.cell? ((a.add (i*b)).add j)=some v/\au (allI w) w c v:=by
   intro i;obtain⟨E,g,u⟩:=W i (by omega);obtain⟨y,N⟩:=r _ _ _ u;refine⟨y,fun j c z=>?_⟩;have O:E.length=(f y).cells.length:=by simpa using N.1
   have X:j<(f y).cells.length:=by
    rcases bB j (f y).cells.length with o | o
    ·exact o
    ·rw [cb o] at z;cases z
   have A:E[j]?=some (E[j]'(by omega)):=aI (by omega);refine⟨E[j]'(by omega),?_,N.2 j c _ z (by simpa using A)⟩;rw [p] at g;obtain⟨_,h5,Y⟩:=World.cells?_some g;rw [Y j (by rw [J] at X;omega),A]
  let l:List C:=List.ofFn fun i:Fin s=>Classical.choose (M i)
  have F:l.length=s:=by simp [l]
  have Z:∀ i (B:i<s) j c,(f (l[i]'(by omega))).cells[j]?=some c->∃ v,w.cell? ((a.add (i*b)).add j)=some v/\au (allI w) w c v:=by intro i B;have:=xJ (M ⟨i,B⟩);simpa [l] using this
  have G:∀ e∈l.map f,e.cells.length=b:=by intro e r;obtain⟨y,_,rfl⟩:=aS.1 r;exact J y
  have a0:∀ c∈D.flat (l.map f),c.one=true:=by intro c p;obtain⟨e,r,p⟩:=uX.1 p;obtain⟨y,_,rfl⟩:=aS.1 r;exact q y c p
  have Q:∀ k c,(D.flat (l.map f))[k]?=some c->∃ v,w.cell? (a.add k)=some v/\au (allI w) w c v:=by
   intro k c d;have O:=fU G;have H:k<(D.flat (l.map f)).length:=by
    rcases bB k (D.flat (l.map f)).length with o | o
    ·exact o
    ·rw [cb o] at d;cases d
   rw [O,db,F] at H;have R:0<b:=by
    rcases n_ b with I | I
    ·rw [I] at H;omega
    ·exact I
   have B:k / b<s:=(uY R).2 H;have z:k % b<b:=qW _ R;have S:k / b*b+k % b=k:=by rw [qX];exact uZ k b
   have a1:(l.map f)[k / b]?=some (f (l[k / b]'(by omega))):=by simp [F,B]
   have:=flat_get G a1 (k % b) z;rw [S,d] at this;obtain⟨v,g,u⟩:=Z (k / b) B (k % b) c this.symm;rw [add_add,S] at g;exact⟨v,g,u⟩
  refine⟨l,⟨rfl,fun k c v d A=>?_⟩⟩;cases k with
  | succ k=>simp [D.cells] at d
  | zero =>
   simp [D.cells] at d A;subst d;subst A;refine .sl a (fun k=>(w.cell? (a.add k)).getD undef) (by simp [F]) U (by unfold maxLen at V;omega) (.inl rfl) G a0 (fun k c d=>?_) (fun k c d=>?_)
   ·obtain⟨v,g,_⟩:=Q k c d;exact⟨by simp [allI,g],by simp [g]⟩
   ·obtain⟨v,g,u⟩:=Q k c d;simpa [g] using u
end
end
section
open Go Go.Deep Go.ChangeShapes Go.WideShapes
section
variable {H:Type}{enc:TypeId×Value->H}{P:Program}{w:World}
theorem Ct{I:Addr->Prop}{d:D}{v:Value}(h:au I w d v):gX I w [d] #[v]:=⟨rfl,fun k c u a b=>by
 cases k with
 | zero=>simp at a b;subst a;subst b;exact h
 | succ k=>simp at a⟩
theorem Xt{t:TypeId}{k:IntKind}(a:P.underlying t=some (.int k)):dR enc P w t (fun n:Int=>.lit (.int k n)):=by intro c d x h;obtain⟨n,rfl,_,b⟩:=DataW.trod_int a h;refine⟨n,Ct (.lit ?_)⟩;simpa [Sc,Lit.wf] using b
theorem JK{t:TypeId}(a:P.underlying t=some .bool):dR enc P w t (fun b:Bool=>.lit (.bool b)):=by intro c d x h;obtain⟨b,rfl,_⟩:=DataW.trod_bool a h;exact⟨b,Ct (.lit trivial)⟩
theorem me{a b:Type}{t:TypeId}{f:a->D}{g:b->D}(h:dR enc P w t f)(c:∀ y,∃ z,g z=f y):dR enc P w t g:=by intro d e x i;obtain⟨y,j⟩:=h d e x i;obtain⟨z,k⟩:=c y;exact⟨z,by rw [k];exact j⟩
theorem Xu{I:Addr->Prop}{b g:List D}{e j:List Value}(h:gX I w b e.toArray)(k:gX I w g j.toArray):gX I w (b++g) (e++j).toArray:=by
 have l:e.length=b.length:=by simpa using h.1
 refine⟨by simp [l];have:=k.1;simpa using this,fun i c v d a=>?_⟩;simp at a;rcases bB i b.length with f | f
 ·rw [eY f] at d;rw [eY (by omega)] at a;exact h.2 i c v d (by simpa using a)
 ·rw [eJ f] at d;rw [eJ (by omega),l] at a;exact k.2 _ c v d (by simpa using a)
def yv{e:Type}(enc:TypeId×Value->H)(P:Program)(w:World)(c:List Field)(d:Nat)(g:e->List D):Prop :=
 ∀ (n:Nat) (b:List Value),(∀ a∈c,∃ x,DataW.trod enc P w 0 (fun _=>true) true n a.type ((b.drop a.offset).take (P.cellsOf a.type))=some x)->b.length=d+(c.map fun a=>P.cellsOf a.type).sum ->∃ y,gX (allI w) w (g y) (b.drop d).toArray
theorem mf{a:Nat}:yv enc P w [] a (fun _:Unit=>[]):=by
 intro n b _ d;refine⟨(),⟨?_,fun k c v e=>by simp at e⟩⟩;have:b.length=a:=by simpa using d
 simp;omega
theorem cY{j k:Type}{c:Field}{l:List Field}{d off':Nat}{t:TypeId}{f:j->D}{g:k->List D}(q:c.offset=d)(m:c.type=t)(r:d+P.cellsOf t=off')(h:dR enc P w t f)(s:yv enc P w l off' g) :
  yv enc P w (c::l) d (fun y:j×k=>(f y.1).cells++g y.2):=by
 intro n i o u;obtain⟨x,p⟩:=o c (by simp);rw [q,m] at p;obtain⟨a,v⟩:=h _ _ _ p;obtain⟨b,z⟩:=s n i (fun c A=>o c (by simp [A])) (by rw [u];simp [m];omega);refine⟨(a,b),?_⟩;have e:i.drop d=(i.drop d).take (P.cellsOf t)++i.drop off':=by rw [<- r,<- xF,mP]
 rw [e];exact Xu v z
theorem mg{f:Type}{t:TypeId}{a:Array Field}{g:f->List D}(j:P.underlying t=some (.struct a))(k:P.cellsOf t=(a.toList.map fun b=>P.cellsOf b.type).sum)(h:yv enc P w a.toList 0 g):dR enc P w t (fun y=>.agg (g y)):=by
 intro v l x m;obtain⟨e,n,_,_,o,p,q⟩:=DataW.trod_struct j m;obtain⟨y,r⟩:=h n l (fun b s=>by
  obtain⟨i,c⟩:=hs s;have u:i<e.length:=by
   rw [p];rcases bB i a.size with d | d
   ·exact d
   ·rw [cb (by simpa using d)] at c;cases c
  exact⟨e[i],by simpa [u] using q i b (by simpa using c)⟩) (by rw [o,k];simp)
 exact⟨y,by simpa [D.cells] using r⟩
theorem Xv{t:TypeId}(e:P.underlying t=some .string):dR enc P w t (fun s:B8=>.lit (.string ⟨s.toArray⟩)):=by
 intro b f x h;cases b with
 | zero=>simp [DataW.trod] at h
 | succ b =>
  unfold DataW.trod at h;rw [e] at h
  match f,h with
  | [.string s],h =>
   simp only at h;split at h
   ·rename_i g;refine⟨s.data.toList,⟨rfl,fun k c v a d=>?_⟩⟩;cases k with
    | zero =>simp [D.cells] at a d;subst a;subst d;exact .lit g
    | succ k=>simp [D.cells] at a
   ·cases h
end
end
section
open Go Go.ChangeShapes Go.WideShapes Go.RowKit
def kD(P:Program)(t:TypeId)(K:D->Prop):Prop:=∀ {H:Type}(a:TypeId×Value->H) (W:World) (b:Nat) (v:Value) (d:DataW H) (p:List MemPlace),
 Value.okWide P W .any b t v->DataW.Trod a P W 0 (fun _=>true) true t v d p->∃ x,K x/\au (allI W) W x v
theorem JL{l:Type}{P:Program}{t:TypeId}{f:l->D}(b:(match P.underlying t with | some (.struct _) | some (.array _ _)=>true | _=>false)=true)(m:∀ {H:Type}{j:TypeId×Value->H}{w:World},dR j P w t f)(n:∀ y,(f y).isAgg=true)(o:∀ y,∀ c∈(f y).cells,c.one=true):kD P t (fun x=>∃ y,x=f y):=by
 intro H j W z v d p g i;obtain⟨A,i⟩:=i;obtain⟨y,q⟩:=m _ _ _ i;have r:∃ a,v=.agg a:=by
  unfold Value.okWide at g;cases h:P.underlying t with
  | none=>rw [h] at b;cases b
  | some d =>
   rw [h] at b g;cases d <;> first
    | (cases b;done)
    | (obtain⟨a,e,_⟩:=g;exact⟨a,e⟩)
 obtain⟨a,rfl⟩:=r;refine⟨f y,⟨y,rfl⟩,?_⟩;have k:gX (allI W) W (f y).cells a:=by simpa [Value.cells] using q
 have s:=o y;have u:=n y;generalize f y=x at *;cases x <;> simp [D.isAgg] at u;exact .agg k.1 s k.2
theorem Xw{g:Type}{P:Program}{t:TypeId}{f:g->D}(h:∀ {H:Type}{c:TypeId×Value->H}{w:World},dR c P w t f)(i:∀ y,(f y).cells=[f y])(j:∀ (W:World) (a:Nat) (v:Value),Value.okWide P W .any a t v->v.cells=#[v]):kD P t (fun x=>∃ y,x=f y):=by intro H c W a v d p k b;obtain⟨l,b⟩:=b;obtain⟨y,e⟩:=h _ _ _ b;refine⟨f y,⟨y,rfl⟩,?_⟩;rw [i y,j W a v k] at e;exact e.2 0 _ v rfl rfl
theorem yw{b:Type}{P:Program}{t e:TypeId}{d:Nat}{f:b->D}(c:P.underlying t=some (.slice e))(g:∀ {H:Type}{h:TypeId×Value->H}{w:World},dR h P w t (fun l:List b=>.sl d (l.map f))) :
  kD P t (fun x=>∃ l:List b,x=.sl d (l.map f)) :=
 Xw g (fun _=>rfl) (fun W i v a=>by
  unfold Value.okWide at a;rw [c] at a;unfold Cell.okWide at a;rw [c] at a;cases v <;> first
   | rfl
   | (exfalso;simp [Cell.ok,c] at a;done))
theorem Xx{P:Program}{t:TypeId}{k:IntKind}(b:P.underlying t=some (.int k)):kD P t (fun x=>∃ n:Int,(k.min<=n/\n<=k.max)/\x=.lit (.int k n)):=by
 intro H g W h v d p c e;obtain⟨n,rfl,_,_,f⟩:=open_int b c e;have a:k.min<=n/\n<=k.max:=by simpa [Lit.wf] using f
 exact⟨_,⟨n,a,rfl⟩,.lit a⟩
theorem JM{H:Type}{i:TypeId×Value->H}{P:Program}(j:laidOutB P=true){W k:World}(l:Below W.heap.size W k):∀ {a:List TypeId}{c:List Value}{e:List (DataW H)}{ps:List MemPlace},(∀ t∈a,P.readableRec t=true/\t<P.types.size) ->DataW.TrodAll i P W 0 (fun _=>true) true a c e ps->(∀ x∈ps,x.block<W.heap.size)->DataW.TrodAll i P k 0 (fun b=>decide (b<W.heap.size)) true a c e ps
 | [],c,e,ps,_,h,_=>by obtain⟨rfl,rfl,rfl⟩:=trodAll_nil h;exact rfl
 | t::a,c,e,ps,f,h,m=>by obtain⟨v,s,d,u,p,q,rfl,rfl,rfl,n,o⟩:=trodAll_cons h;exact⟨p,q,Below.trod j (f t (by simp)).1 (f t (by simp)).2 n l (fun x g=>m x (by simp [g])),JM j l (fun t r=>f t (by simp [r])) o (fun x g=>m x (by simp [g])),rfl⟩
theorem JN{H:Type}{m:TypeId×Value->H}{P:Program}{W:World}{n:Nat}:∀ {f:List TypeId}{g:List (D->Prop)}{a:List Value}{i:List (DataW H)}{ps:List MemPlace},bH (fun t K=>kD P t K) f g ->(∀ (j:Nat) (t:TypeId) (v:Value),f[j]?=some t->a[j]?=some v->Value.okWide P W .any n t v)->DataW.TrodAll m P W 0 (fun _=>true) true f a i ps ->∃ b:List D,bH (fun(K:D->Prop) d=>K d) g b/\a.length=b.length/\∀ (k:Nat) (c:D) (v:Value),b[k]?=some c->a[k]?=some v->au (allI W) W c v
 | [],[],a,i,ps,.nil,_,h=>by obtain⟨rfl,rfl,rfl⟩:=trodAll_nil h;exact⟨[],.nil,rfl,fun k c v e=>by simp at e⟩
 | t::f,K::g,a,i,ps,.cons r s,o,h=>by
  obtain⟨v,I,d,J,p,q,rfl,rfl,rfl,w,y⟩:=trodAll_cons h;obtain⟨x,z,A⟩:=r m W n v d p (o 0 t v rfl rfl) w;obtain⟨b,B,C,E⟩:=JN s (fun j t v F G=>o (j+1) t v (by simpa using F) (by simpa using G)) y;refine⟨x::b,.cons z B,by simp [C],fun k c u e l=>?_⟩;cases k with
  | zero=>simp at e l;subst e;subst l;exact A
  | succ k=>exact E k c u (by simpa using e) (by simpa using l)
theorem Xy{w a:World}(h:ct w a):Below w.heap.size w a:=⟨h.os,h.tape,h.output,h.size,h.block⟩
theorem Xz{H:Type}{r:TypeId×Value->H}{P:Program}{u:FuncId}{F:Func}{s:ChangeSpec}{f:List TypeId}{w:List (D->Prop)}{tb:TypeId}(J:laidOutB P=true)(m:F.params.toList=f)(y:F.resultTypes.toList=[tb])(L:P.underlying tb=some .bool)(z:s.vars=[])(M:∀ b:List (DataW H),b.length=f.length->s.fn H b={results:=[.lit (.bool true)],args:=b})(N:(f.all fun t=>P.readableRec t&&decide (t<P.types.size))=true)(O:bH (fun t K=>kD P t K) f w)(Q:∀ b,bH (fun(K:D->Prop) d=>K d) w b->dO P u b (.ret (dB true)))(W:World)(R:Nat)(g:Array Value)(b S:List (DataW H))(T:List MemPlace)(U:jH (allI W) W)(V:∀ (j:Nat) t v,F.params[j]?=some t->g[j]?=some v->Value.okWide P W .any R t v)(A:DataW.Whole r P F.params.toList s.vars false W g.toList b S T) :
  Calls P u g W fun e B=>∃ v,e=.returned v/\s.post r P F false true false false W g v B:=by
 have C:=A;have X:=fun x n=>C.lt x n
 obtain⟨p,q,l,E,rfl,_,_⟩:=A;rw [z] at E;obtain⟨rfl,rfl⟩:=trodVars_none E;rw [m] at l;obtain⟨Y,Z,e2,e3⟩:=JN O (fun j t v G i=>V j t v (by rw [<- m] at G;simpa using G) (by simpa using i)) l;refine((Q Y Z).2 (allI W) W g (fun a h=>h) U ⟨by simpa using e2,fun k c v a0 i=>e3 k c v a0 (by simpa using i)⟩).mono fun e B a1=>?_
 obtain⟨b4,v,_,_,_,a2,he,i⟩:=a1;have I:=Xy a2;have b0:v=.bool true:=by cases i;rfl
 subst b0;have b1:b.length=f.length:=(trodAll_length l).2;have o:=M b b1;have b2:F.resultTypes.size=1:=by have:=congrArg List.length y;simpa using this
 refine⟨_,he,⟨b,[],_,[],p,[],C,?_,?_,?_,I.frame _,fun h=>by cases h⟩⟩
 ·rw [eN,o,y,b2];exact trodAll_mk1 (shut_bool L true)
 ·rw [eN,o,m];exact JM J I (fun t b3=>by have:=bQ.1 N t b3;simpa using this) l (fun x n=>X x (by simp [n]))
 ·rw [eN,o,z];rfl
end
section
def cL(h:List (Nat×HO)):Nat->AV->D->Prop
 | _,.d x,y=>aB x y
 | _,.own _ j g,y=>aB (.sl j g) y
 | _,.e0 z,y=>aB (.sl z []) y
 | k,.aE n o z l _,y=>match look h n with
  | some (.box _ d)=>match cq d with
   | some i=>o+l*z<=i.length/\aB (.sl z (e' z l (i.drop o))) y
   | none=>match k with
    | 0=>False
    | k+1=>∃ g,l=g.length/\(∀ e∈g,e.cells.length=z)/\(∀ c∈D.flat g,c.one=true)/\fJ h k ((d.drop o).take (l*z)) (D.flat g)/\aB (.sl z g) y
  | _=>False
 | _,.ptr _ _,.any=>True
 | k+1,.ptr n o,.ip x=>match look h n with
  | some (.box _ d)=>fJ h k ((d.drop o).take x.cells.length) x.cells/\∀ c∈x.cells,c.one=true
  | _=>False
 | k+1,.fn f a b,.fn m p q=>f=m/\fJ h k a p/\fJ h k b q
 | k+1,.agg d,.agg i=>fJ h k d i/\∀ c∈i,c.one=true
 | k+1,.af d,.af i=>fJ h k d i
 | _,_,_=>False
where fJ (h:List (Nat×HO)) (k:Nat):List AV->List D->Prop
 | [],[]=>True
 | c::r,s::t=>cL h k c s/\fJ h k r t
 | _,_=>False
theorem XA{E:Env}{G:Gh}{h:List (Nat×HO)}{w:World}(H:aD E G (look h) w){F:Addr->Prop}(c0:∀ a,G.I a->F a)(b1:∀ n a,G.box n=some a.block->(w.cell? a).isSome=true->F a) :
  ∀ (k:Nat) (v:AV) (d:D),cL h k v d->∀ {x:Value},aC G w v x->au F w d x:=by
 have a2:∀ a,G.I a->F a/\w.cell? a=w.cell? a:=fun a c1=>⟨c0 a c1,rfl⟩
 have b5:∀ {r sz:Nat}{J:List D}{y:D}{x:Value},aB (.sl sz J) y->aC G w (.own r sz J) x->au F w y x:=fun M g=>by obtain⟨A,n,d3,rfl,Y,g2⟩:=g.tA;exact M _ _ _ (g2.mono a2)
 have b6:∀ {s:Nat}{y:D}{x:Value},aB (.sl s []) y->aC G w (.e0 s) x->au F w y x:=fun M g=>by
  cases g with
  | @e0 _ A =>exact M _ _ _ (.sl ⟨0,0,none⟩ (fun _=>undef) rfl (bj _) (by omega) (.inr rfl) (by simp) (by simp [D.flat]) (by simp [D.flat]) (by simp [D.flat]))
 have b7:∀ {n o s l c:Nat}{y:D}{x:Value}{S:Bool}{K:List AV}{N:List D},look h n=some (.box S K)->cq K=some N->o+l*s<=N.length->aB (.sl s (e' s l (N.drop o))) y->aC G w (.aE n o s l c) x->au F w y x:=fun {n o s l c y x S K N} L a1 d4 M g=>by
  obtain⟨b,O,Y,g2,g3,g4,g5,rfl⟩:=kq g;obtain⟨c2,q,ty,P,e2,e3,e4⟩:=H.box n S K L;rw [Y] at P;injection P with P;subst P
  have b2:=oh a1;have e4:=e4.1;have b8:∀ d∈N,d.one=true:=fun d Z=>e4 (.d d) (by rw [b2];exact AJ Z)
  have T:∀ k,w.cell? ⟨b,k,none⟩=q[k]?:=fun k=>hW w b k q ty (0,0) e2
  have U:∀ k d,N[k]?=some d->∃ u,q[k]?=some u/\au G.I w d u:=fun k d C=>by
   have V:k<q.size:=by refine fx ?_ e3.1;rw [b2,db];exact(bu.1 C).1
   exact⟨q[k],bb V,(e3.2 k (.d d) _ (by rw [b2];simp [C]) (bb V)).cw⟩
  obtain⟨q1,q2,q3⟩:=xP (z:=s) (len:=l) (ds:=N.drop o) (by simp;omega) (fun d Z=>b8 d (iL Z));have b9:∀ k d,(D.flat (e' s l (N.drop o)))[k]?=some d->N[o+k]?=some d:=fun k d C=>by
   rw [q3,eh] at C;split at C
   ·rw [fD] at C;exact C
   ·cases C
  refine M _ _ _ (.sl ⟨b,o,none⟩ (fun k=>(q[o+k]?).getD undef) q1.symm (by omega) g4 (.inl rfl) q2 (fun d Z=>?_) (fun k d C=>?_) (fun k d C=>?_))
  ·rw [q3] at Z;exact b8 d (iL (ir Z))
  ·obtain⟨u,t,_⟩:=U _ d (b9 k d C);rw [cc];exact⟨b1 n _ Y (by rw [T,t];rfl),by rw [T,t];rfl⟩
  ·obtain⟨u,t,h3⟩:=U _ d (b9 k d C);simp only [t,Option.getD];exact h3.mono a2
 intro k
 induction k with
 | zero =>
  intro v d f x g;unfold cL at f;split at f
  ·exact f _ _ _ (g.cw.mono a2)
  ·exact b5 f g
  ·exact b6 f g
  ·split at f
   ·rename_i L;split at f
    ·rename_i a1;exact b7 L a1 f.1 f.2 g
    ·exact f.elim
   ·exact f.elim
  ·obtain⟨b,rfl,b0⟩:=g.tB;exact .any ⟨rfl,rfl⟩
  all_goals (first | exact f.elim | (rename_i Q;cases Q))
 | succ k d0 =>
  have a0:∀ (l:List AV) (m:List D),cL.fJ h k l m->l.length=m.length/\∀ (j:Nat) (d:D),m[j]?=some d->∃ c,l[j]?=some c/\∀ {x:Value},aC G w c x->au F w d x:=by
   intro l
   induction l with
   | nil =>
    intro m h;cases m with
    | nil=>exact⟨rfl,fun j d i=>by simp at i⟩
    | cons _ _=>simp [cL.fJ] at h
   | cons c r d1 =>
    intro m h;cases m with
    | nil=>simp [cL.fJ] at h
    | cons d m =>
     simp only [cL.fJ] at h;obtain⟨R,I⟩:=d1 m h.2;refine⟨by simp [R],fun j e i=>?_⟩;cases j with
     | zero=>simp at i;subst i;exact⟨c,rfl,fun g=>d0 c d h.1 g⟩
     | succ j=>simpa using I j e (by simpa using i)
  have d2:∀ {n o s l c:Nat}{y:D}{x:Value}{S:Bool}{K:List AV},look h n=some (.box S K)->(∃ J,l=J.length/\(∀ e∈J,e.cells.length=s)/\(∀ c∈D.flat J,c.one=true)/\cL.fJ h k ((K.drop o).take (l*s)) (D.flat J)/\aB (.sl s J) y)->aC G w (.aE n o s l c) x->au F w y x:=fun {n o s l c y x S K} L f g=>by
   obtain⟨J,rfl,g2,g3,g4,g5⟩:=f;obtain⟨b,O,Y,t,h3,h4,h5,rfl⟩:=kq g;obtain⟨c2,q,ty,P,e2,e3,e4⟩:=H.box _ _ _ L;rw [Y] at P;injection P with P;subst P
   obtain⟨R,I⟩:=a0 _ _ g4;have T:∀ j,w.cell? ⟨b,j,none⟩=q[j]?:=fun j=>hW w b j q ty (0,0) e2
   have U:∀ j c,(D.flat J)[j]?=some c->∃ u,q[o+j]?=some u/\au F w c u:=fun j c i=>by
    obtain⟨b3,p,t⟩:=I j c i;rw [eh] at p;split at p
    ·rw [fD] at p;have V:o+j<q.size:=fx (bu.1 p).1 e3.1;exact⟨q[o+j],bb V,t (e3.2 _ b3 _ p (bb V))⟩
    ·cases p
   refine g5 _ _ _ (.sl ⟨b,o,none⟩ (fun j=>(q[o+j]?).getD undef) rfl (by omega) h4 (.inl rfl) g2 g3 (fun j c i=>?_) (fun j c i=>?_))
   ·obtain⟨u,p,_⟩:=U j c i;rw [cc];exact⟨b1 _ _ Y (by rw [T,p];rfl),by rw [T,p];rfl⟩
   ·obtain⟨u,p,t⟩:=U j c i;rw [p];exact t
  intro v d f x g;unfold cL at f;split at f
  ·exact f _ _ _ (g.cw.mono a2)
  ·exact b5 f g
  ·exact b6 f g
  ·split at f
   ·rename_i L;split at f
    ·rename_i a1;exact b7 L a1 f.1 f.2 g
    ·exact d2 L f g
   ·exact f.elim
  ·obtain⟨b,rfl,b0⟩:=g.tB;exact .any ⟨rfl,rfl⟩
  ·rename_i n o y B;injection B with B;subst B
   split at f
   ·rename_i S K L;obtain⟨b,rfl,b0⟩:=g.tB;obtain⟨d5,q,ty,f1,f2,f3,f4⟩:=H.box n S K L;rw [b0] at f1;injection f1 with f1;subst f1
    obtain⟨R,I⟩:=a0 _ _ f.1;have T:∀ j,w.cell? ⟨b,j,none⟩=q[j]?:=fun j=>hW w b j q ty (0,0) f2
    have U:∀ j c,y.cells[j]?=some c->∃ u,q[o+j]?=some u/\au F w c u:=fun j c i=>by
     obtain⟨b3,p,t⟩:=I j c i;rw [eh] at p;split at p
     ·rw [fD] at p;have V:o+j<q.size:=fx (bu.1 p).1 f3.1;exact⟨q[o+j],bb V,t (f3.2 _ b3 _ p (bb V))⟩
     ·cases p
    refine .ip ⟨b,o,none⟩ (fun j=>(q[o+j]?).getD undef) f.2 (fun j c i=>?_) (fun j c i=>?_)
    ·obtain⟨u,p,t⟩:=U j c i;rw [cc];refine⟨b1 n _ b0 (by rw [T,p];rfl),by rw [T,p];rfl⟩
    ·obtain⟨u,p,t⟩:=U j c i;rw [p];exact t
   ·exact f.elim
  ·rename_i B;injection B with B;subst B
   obtain⟨rfl,p,t⟩:=f;obtain⟨x1,x2,rfl,l1,l2,r1,r2⟩:=g.nc;obtain⟨R,I⟩:=a0 _ _ p;obtain⟨j1,j2⟩:=a0 _ _ t;refine .fn (by rw [l1,R]) (by rw [l2,j1]) (fun j c y i W=>?_) (fun j c y i W=>?_)
   ·obtain⟨O,X,Q⟩:=I j c i;exact Q (r1 j O y X W)
   ·obtain⟨O,X,Q⟩:=j2 j c i;exact Q (r2 j O y X W)
  ·rename_i B;injection B with B;subst B
   obtain⟨vs,rfl,M,b4⟩:=g.rK;obtain⟨R,I⟩:=a0 _ _ f.1;refine .agg (by rw [M,R]) f.2 (fun j c y i W=>?_);obtain⟨O,X,Q⟩:=I j c i;exact Q (b4 j O y X W)
  ·rename_i B;injection B with B;subst B
   obtain⟨vs,rfl,M,b4⟩:=g.tC;obtain⟨R,I⟩:=a0 _ _ f;refine .af (by rw [M,R]) (fun j c y i W=>?_);obtain⟨O,X,Q⟩:=I j c i;exact Q (b4 j O y X W)
  ·exact f.elim
def yx(d:D)(k:Nat:=4):bK->List (Nat×HO)->Prop
 | .ret v,h=>cL h k v d
 | .aQ _,_=>False
theorem XB{P:Program}{f:FuncId}{T:Cx->List AV->List (Nat×HO)->(bK->List (Nat×HO)->Prop)->Prop}(L:cW P f T){p:List D}{d:D}{z:FuncId->List D->Out->Prop}(U:∀ f M N,z f M N->dO P f M N)(k:Nat:=4)(F:(∀ d∈p,Real d)->T {C:=z} (p.map .d) [] (yx d k)):dO P f p (.ret d):=by
 refine⟨L.1,fun O w t V W l=>?_⟩;have X:∀ d∈p,Real d:=fun d J=>by
  obtain⟨k,q⟩:=hs J;have Y:k<t.size:=by
   rw [l.1];rcases bB k p.length with x | x
   ·exact x
   ·rw [cb x] at q;cases q
  exact⟨_,_,_,l.2 k d _ q (bb Y)⟩
 have F:=F X
 let G:Gh:={I:=O,box:=fun _=>none,row:=fun _=>none}
 let E:Env:={w0:=w,I0:=O,K:=fun b=>b<w.heap.size,B:=0,Gb:=G,wb:=w,gl:=W}
 have H:aD E G (look []) w:=⟨rfl,rfl,rfl,bj _,fun b i=>⟨i,rfl⟩,fun a g=>⟨g,rfl⟩,fun a g=>.inl g,V,fun n _=>⟨rfl,rfl⟩,fun n ag cs o=>by simp [look] at o,fun n b i=>by simp [G] at i,fun n m b i=>by simp [G] at i,fun r l=>by simp [look] at l,fun r a2 A n b0 sz A' b1 b2 b3 l=>by simp [look] at l,fun n s o=>by simp [look] at o,fun n s o=>by simp [look] at o,aW.refl G w,fun n b i=>by simp [E,G] at i,fun n b i=>by simp [E,G] at i⟩;have Q:=L.2 E {C:=z} G [] w (p.map .d) t.toList (yx d k) H ⟨rfl,fun ro G h w b4 t b5 _ _ Z=>Z.elim,fun _=>rfl,U⟩ ⟨by simp [l.1],fun k c u q hu=>by simp only [bG,bZ] at q;obtain⟨d,J,rfl⟩:=q;exact .d (l.2 k d u J (by simpa using hu))⟩ F
 rw [show t.toList.toArray=t by simp] at Q;refine AQ Q fun e R y=>?_
 obtain⟨S,x,j,y⟩:=y;have a0:ct w R:=⟨j.os,j.tape,j.output,j.size,fun b i=>(j.kept b i).2⟩;cases e with
 | returned v =>
  obtain⟨a1,k1,k2⟩:=y;have k2:cL x k a1 d:=k2;refine⟨fun a=>S.I a\/((∃ n,S.box n=some a.block)/\(R.cell? a).isSome=true),v,fun a g=>.inl (j.i0 a g).1,fun a g=>?_,fun a g=>?_,a0,rfl,XA j (fun _ h=>.inl h) (fun n a h1 h2=>.inr ⟨⟨n,h1⟩,h2⟩) k _ _ k2 k1⟩
  ·rcases g with g | ⟨⟨n,o⟩,_⟩
   ·exact j.eo a g
   ·exact .inr (vb (j.bJ n _ o).2.1)
  ·rcases g with g | ⟨_,g⟩
   ·exact j.cu a g
   ·exact g
 | panicked ch =>obtain⟨v,b6,rfl,k1,k2⟩:=y;exact k2.elim
 | outgrown=>exact y.elim
theorem oM{P:Program}{f:FuncId}{a:AF}{b:List D}{d:D}{c:FuncId->List D->Out->Prop}(h:∀ f e g,c f e g->dO P f e g)(i:g' P f a)(j:b.length<=a.nt)(k:Nat:=4)(l:(∀ d∈b,Real d)->bL P {C:=c} a.body (ni P c a (yx d k)) ⟨jo (b.map .d) 0,[],[]⟩):dO P f b (.ret d) :=
 XB (aR i) h k fun m=>⟨by simpa using j,by have:=l m;rw [eR] at this;exact this⟩
section
variable (h:List (Nat×HO)) (k:Nat)
theorem XC(d:D)(v:AV):yx d k (.ret v) h=cL h k v d:=rfl
theorem XD(n o:Nat):cL h k (.ptr n o) .any=True:=by cases k <;> simp [cL]
theorem Cu(x y:D):cL h k (.d x) y=aB x y:=by cases k <;> cases y <;> simp [cL]
theorem XE(r a:Nat)(b:List D)(y:D):cL h k (.own r a b) y=aB (.sl a b) y:=by cases k <;> cases y <;> simp [cL]
theorem JO(z:Nat)(y:D):cL h k (.e0 z) y=aB (.sl z []) y:=by cases k <;> cases y <;> simp [cL]
theorem JP(n o z l c:Nat)(y:D):cL h (k+1) (.aE n o z l c) y=match look h n with
  | some (.box _ b)=>match cq b with
   | some d=>o+l*z<=d.length/\aB (.sl z (e' z l (d.drop o))) y
   | none=>∃ a,l=a.length/\(∀ e∈a,e.cells.length=z)/\(∀ c∈D.flat a,c.one=true)/\cL.fJ h k ((b.drop o).take (l*z)) (D.flat a)/\aB (.sl z a) y
  | _=>False:=by rw [cL]
theorem XF(n o:Nat)(x:D):cL h (k+1) (.ptr n o) (.ip x)=match look h n with
  | some (.box _ a)=>cL.fJ h k ((a.drop o).take x.cells.length) x.cells/\∀ c∈x.cells,c.one=true
  | _=>False:=by rw [cL]
theorem XG(f c:Fn)(a b:List AV)(d e:List D):cL h (k+1) (.fn f a b) (.fn c d e)=(f=c/\cL.fJ h k a d/\cL.fJ h k b e):=by rw [cL]
theorem JQ(b:List AV)(a:List D):cL h (k+1) (.agg b) (.agg a)=(cL.fJ h k b a/\∀ c∈a,c.one=true):=by rw [cL]
theorem Cv(a:List AV)(b:List D):cL h (k+1) (.af a) (.af b)=cL.fJ h k a b:=by rw [cL]
theorem yy:cL.fJ h k [] []=True:=by rw [cL.fJ]
theorem yz(c:AV)(a:D)(r:List AV)(b:List D):cL.fJ h k (c::r) (a::b)=(cL h k c a/\cL.fJ h k r b):=by rw [cL.fJ]
end
attribute [simp] XC XD Cu XE JO JP XF XG JQ Cv yy yz
theorem XH(a:Nat)(b:List D)(r z:Nat)(c:List D)(h:List (Nat×HO)):Ta a b (.ret (.own r z c)) h=(z=a/\c=b/\look h r=some .row):=rfl
theorem XI(a:List (Nat×HO))(r b:Nat)(c:List D):IK a (.own r b c)=match look a r with
  | some .row=>some (b,c,[(r,.row)],[(r,.dead)])
  | _=>none:=rfl
theorem XJ(b:List (Nat×HO))(a:Nat):IK b (.d (.nil a))=some (a,[],[],[]):=rfl
attribute [simp] XH XI XJ
theorem XK:fl true=some default:=rfl
theorem XL:fl false=none:=rfl
attribute [simp] XK XL
theorem cW.mono{P:Program}{f:FuncId}{T c:Cx->List AV->List (Nat×HO)->(bK->List (Nat×HO)->Prop)->Prop}(d:cW P f T)(e:∀ a b h K,c a b h K->T a b h K):cW P f c :=
 ⟨d.1,fun E a G h w b g K H i j k=>d.2 E a G h w b g K H i j (e a b h K k)⟩
theorem cW.qp{P:Program}{f:FuncId}{T:Cx->List AV->List (Nat×HO)->(bK->List (Nat×HO)->Prop)->Prop}(d:cW P f T){a:FuncId->List D->Out->Prop}(i:∀ f e g,a f e g->dO P f e g):cW P f (fun b=>T {b with C:=a}) :=
 ⟨d.1,fun E b G h w j k K H c l m=>d.2 E {b with C:=a} G h w j k K H ⟨c.B,c.y,c.top,i⟩ l m⟩
def wg(h:List (Nat×HO))(a:List D):Prop :=
 match look h 0 with
 | some (.box _ b)=>aq.ba tD tF tG 3 b (a.map .d)/\∀ c∈a,c.one=true
 | _=>False
def JR(b:Out)(R:List D->Prop):bK->List (Nat×HO)->Prop
 | .ret v,h=>(match b with | .ret d=>aq tD tF tG 3 v (.d d) | _=>False)/\∃ a,R a/\wg h a
 | .aQ x,h=>(match b with | .aQ d=>x=d | _=>False)/\∃ a,R a/\wg h a
def kE(a:Out)(K:bK->List (Nat×HO)->Prop)(h:List (Nat×HO)):Prop :=
 match a with
 | .ret d=>K (.ret (.d d)) h
 | .aQ d=>K (.aQ d) h
 | _=>False
theorem XM(d:D)(R:List D->Prop)(v:AV)(h:List (Nat×HO)):JR (.ret d) R (.ret v) h=(aq tD tF tG 3 v (.d d)/\∃ a,R a/\wg h a):=rfl
theorem XN(x d:D)(R:List D->Prop)(h:List (Nat×HO)):JR (.aQ d) R (.aQ x) h=(x=d/\∃ a,R a/\wg h a):=rfl
theorem XO(h:List (Nat×HO))(a:List D):wg h a=match look h 0 with
 | some (.box _ b)=>aq.ba tD tF tG 3 b (a.map .d)/\∀ c∈a,c.one=true
 | _=>False:=rfl
theorem XP(d:D)(K:bK->List (Nat×HO)->Prop)(h:List (Nat×HO)):kE (.ret d) K h=K (.ret (.d d)) h:=rfl
theorem XQ(d:D)(K:bK->List (Nat×HO)->Prop)(h:List (Nat×HO)):kE (.aQ d) K h=K (.aQ d) h:=rfl
attribute [simp] XM XN XO XP XQ
def TC(a:List D)(b:Out)(_:Cx)(c:List AV)(h:List (Nat×HO))(K:bK->List (Nat×HO)->Prop):Prop :=
 gK h c=some (a,false)/\kE b K h
theorem kF{P:Program}{f:FuncId}{i:List D}{b:Out}(n:dO P f i b)(o:b.isApp=false:=by rfl):cW P f (TC i b):=by
 have g:=n.rE o;refine⟨g.1,fun E y G h w z A K H B k q=>?_⟩;obtain⟨r,a⟩:=q;refine(ts H r (fun p g=>vD p g) k.1 k.2 g).mono fun e C s=>?_
 obtain⟨t,v,F,u,m⟩:=s;refine⟨t,h,u,?_⟩;cases b with
 | ret d =>obtain⟨rfl,j⟩:=m;exact⟨.d d,.d (j (fun h=>(by cases h))),a⟩
 | aQ d =>obtain⟨rfl,j⟩:=m;exact⟨v,d,rfl,j (fun h=>(by cases h)),a⟩
 | fa x=>exact a.elim
 | fH i x=>exact a.elim
 | fA I l c J=>exact a.elim
def wh(B:Nat)(K:bK->List (Nat×HO)->Prop):bK->List (Nat×HO)->Prop
 | .ret v,h=>∃ b a,Sub B ⟨[(0,true,v)],h,[]⟩ ⟨[(0,true,b)],a,[]⟩/\K (.ret b) a
 | .aQ d,h=>∃ a,Sub B ⟨[],h,[]⟩ ⟨[],a,[]⟩/\K (.aQ d) a
theorem JS{E:Env}{G:Gh}{h d:List (Nat×HO)}{w:World}{v c:AV}{x:Value}(H:aD E G (look h) w)(g:aC G w v x)(i:Sub E.B ⟨[(0,true,v)],h,[]⟩ ⟨[(0,true,c)],d,[]⟩) :
  ∃ b,b.I=G.I/\aD E b (look d) w/\aC b w c x:=by
 have j:bO E G ⟨[(0,true,v)],h,[]⟩ {tmps:=#[x],defers:=[]} w 1:=⟨H,rfl,fun t e a=>(by
  simp only [bn] at a;split at a
  ·rename_i k;subst k;injection a with a;subst a
   exact⟨x,rfl,fun _=>g,fun h=>by cases h⟩
  ·cases a),.nil⟩
 obtain⟨b,q1,f⟩:=i.rel j;obtain⟨l,m,n,_⟩:=f.sr 0 (true,c) rfl;have:l=x:=by simpa using m.symm
 subst this;exact⟨b,q1,f.wr,n rfl⟩
theorem JT{E:Env}{G:Gh}{h b:List (Nat×HO)}{w:World}(H:aD E G (look h) w)(c:Sub E.B ⟨[],h,[]⟩ ⟨[],b,[]⟩) :
  ∃ a,a.I=G.I/\aD E a (look b) w:=by
 have d:bO E G ⟨[],h,[]⟩ {tmps:=#[],defers:=[]} w 0:=⟨H,rfl,fun t e f=>(by simp [bn] at f),.nil⟩;obtain⟨a,q1,g⟩:=c.rel d;exact⟨a,q1,g.wr⟩
theorem Cw{P:Program}{f:FuncId}{T:Cx->List AV->List (Nat×HO)->(bK->List (Nat×HO)->Prop)->Prop}(l:cW P f T):cW P f (fun b c h K=>T b c h (wh b.B K)):=by
 refine⟨l.1,fun E b G h w c n K H g o p=>?_⟩;refine AQ (l.2 E b G h w c n _ H g o p) fun e t a=>?_
 obtain⟨u,x,m,a⟩:=a;cases e with
 | returned v =>obtain⟨y,k1,q,i,k2,k3⟩:=a;rw [<- g.B] at k2;obtain⟨j,_,k,k4⟩:=JS m k1 k2;exact⟨j,i,k,q,k4,k3⟩
 | panicked z =>obtain⟨v,d,r,k1,i,k2,k3⟩:=a;rw [<- g.B] at k2;obtain⟨j,s,k⟩:=JT m k2;exact⟨j,i,k,v,d,r,by rw [s];exact k1,k3⟩
 | outgrown=>exact a.elim
theorem Cy{P:Program}{f:FuncId}{T c:Cx->List AV->List (Nat×HO)->(bK->List (Nat×HO)->Prop)->Prop}(d:cW P f T)(h:∀ a b h K,c a b h K->T a b h K):cW P f c :=
 ⟨d.1,fun E a G e w b g K H i j k=>d.2 E a G e w b g K H i j (h _ _ _ _ k)⟩
def iU(N:List Nat):Nat->AV->Bool
 | _,.d _=>true
 | _,.ptr n _=>N.contains n
 | _,.mp n=>N.contains n
 | _,.aE n _ _ _ _=>N.contains n
 | _,.e0 _=>true
 | k+1,.agg c=>c.all (iU N k)
 | k+1,.af c=>c.all (iU N k)
 | k+1,.fn _ a b=>a.all (iU N k)&&b.all (iU N k)
 | _,_=>false
def cE(d:Nat->Nat):Nat->AV->AV
 | _,.ptr n o=>.ptr (d n) o
 | _,.mp n=>.mp (d n)
 | _,.aE n o z l c=>.aE (d n) o z l c
 | k+1,.agg e=>.agg (e.map (cE d k))
 | k+1,.af e=>.af (e.map (cE d k))
 | k+1,.fn f a b=>.fn f (a.map (cE d k)) (b.map (cE d k))
 | _,v=>v
def dv(a:Nat->Nat):HO->HO
 | .box b c=>.box b (c.map (cE a 3))
 | .aA d=>.aA (d.map fun e=>(e.1,cE a 3 e.2))
 | o=>o
def kG(N:List Nat):HO->Bool
 | .box _ a=>a.all (iU N 3)
 | .aA b=>b.all fun e=>iU N 3 e.2
 | _=>false
def ha(a:Nat->Nat):List (Nat×HO)->List (Nat×HO)->List (Nat×HO)
 | [],h=>h
 | (n,o)::r,h=>aM (ha a r h) (a n) (dv a o)
def tV(a:Nat->Nat):bK->bK
 | .ret v=>.ret (cE a 3 v)
 | .aQ d=>.aQ d
theorem JU(a:Nat->Nat)(k:Nat)(v:AV):(cE a k v).one=v.one:=by cases k <;> cases v <;> rfl
theorem Cz{N:List Nat}{q:Nat->Nat}{G G':Gh}{w:World}(y:G'.I=G.I)(g:∀ n b,N.contains n=true->G.box n=some b->G'.box (q n)=some b/\G'.rc (q n)=G.rc n) :
  ∀ (k:Nat) (v:AV),iU N k v=true->∀ {x:Value},aC G w v x->aC G' w (cE q k v) x
 | 0,v,h,x,o=>by
  cases o with
  | d a=>exact .d (by rw [y];exact a)
  | ptr e=>exact .ptr (g _ _ h e).1
  | mp e=>exact .mp (g _ _ h e).1
  | aE e a m i p=>exact .aE (g _ _ h e).1 a m i (by rw [(g _ _ h e).2];exact p)
  | e0=>exact .e0
  | own _ _=>cases h
  | agg _ _ _=>cases h
  | af _ _=>cases h
  | fn _ _ _ _=>cases h
  | spare _ _ _=>cases h
 | k+1,v,h,x,o=>by
  have r:∀ (s:List AV),s.all (iU N k)=true->∀ (j:Nat) (c:AV) (u:Value) (z:Array Value),(∀ (j:Nat) (c:AV) (u:Value),s[j]?=some c->z[j]?=some u->aC G w c u)->(s.map (cE q k))[j]?=some c->z[j]?=some u->aC G' w c u:=fun s A j c u z o f l=>by simp only [bG,bZ] at f;obtain⟨d,t,rfl⟩:=f;exact Cz y g k d (bQ.1 A d (dh t)) (o j d u t l)
  cases o with
  | d a=>exact .d (by rw [y];exact a)
  | ptr e=>exact .ptr (g _ _ h e).1
  | mp e=>exact .mp (g _ _ h e).1
  | aE e a m i p=>exact .aE (g _ _ h e).1 a m i (by rw [(g _ _ h e).2];exact p)
  | e0=>exact .e0
  | own _ _=>cases h
  | agg a m i =>simp only [iU] at h;simp only [cE];exact .agg (by simp [a]) (fun c f=>by obtain⟨d,t,rfl⟩:=aS.1 f;rw [JU];exact m d t) (fun j c u f l=>r _ h j c u _ i f l)
  | af a i =>simp only [iU] at h;simp only [cE];exact .af (by simp [a]) (fun j c u f l=>r _ h j c u _ i f l)
  | fn a m i p =>simp only [iU,ax] at h;simp only [cE];exact .fn (by simp [a]) (by simp [m]) (fun j c u f l=>r _ h.1 j c u _ i f l) (fun j c u f l=>r _ h.2 j c u _ p f l)
  | spare _ _ _=>cases h
theorem JV{a:Nat->Nat}{h:List (Nat×HO)}{m:Nat}:∀ {b:List (Nat×HO)},(∀ n,(ai b).contains n=true->a n≠m)->look (ha a b h) m=look h m
 | [],_=>rfl
 | (n,o)::r,c=>by rw [ha,bh,ab (fun e=>c n (by simp [ai]) e.symm)];exact JV fun k d=>c k (by simp only [ai,bo,Hm] at d |-;rw [d];simp)
theorem JW{d:Nat->Nat}{h:List (Nat×HO)}:∀ {f:List (Nat×HO)},(∀ n m,(ai f).contains n=true->(ai f).contains m=true->d n=d m->n=m)->∀ {n:Nat}{o:HO},look f n=some o->look (ha d f h) (d n)=some (dv d o)
 | [],_,n,o,c=>by cases c
 | (m,x)::r,i,n,o,c=>by
  rw [ha,bh];have g:∀ k,(ai r).contains k=true->(ai ((m,x)::r)).contains k=true:=fun k j=>by simp only [ai,bo,Hm] at j |-;rw [j];simp
  simp only [look] at c;split at c
  ·rename_i e;subst e;injection c with c;subst c
   rw [aj rfl]
  ·rename_i e;have l:=ng c;rw [ab (fun q=>e (i n m (g n l) (by simp [ai]) q))];exact JW (fun a b p s=>i a b (g a p) (g b s)) c
def mh(a:List (Nat×HO))(e:List AV)(R:bK->List (Nat×HO)->Prop)(_:Cx)(f:List AV)(h:List (Nat×HO))(K:bK->List (Nat×HO)->Prop):Prop :=
 ∃ b:List (Nat×Nat),((ai a).all fun n=>(ai a).all fun m=>aw b n != aw b m||n == m)=true/\aq.ba (aw b) (cj [] a) (bg [] a) 3 f e/\fX b [] ⟨[],h,[]⟩ a a /\∀ c d,R c d->K (tV (aw b) c) (ha (aw b) d h)
def JX(a:List (Nat×HO))(c:bK)(b:List (Nat×HO)):Prop :=
 ai b=ai a/\(b.all fun p=>kG (ai a) p.2)=true/\match c with
  | .ret v=>iU (ai a) 3 v=true
  | .aQ _=>True
theorem tW{e:Nat->Nat}{N:Nat->Option Nat}{f:Nat->Bool}{k:Nat}:∀ {a b:List AV},aq.ba e N f k a b->a.length=b.length/\∀ (j:Nat) (x y:AV),a[j]?=some x->b[j]?=some y->aq e N f k x y
 | [],[],_=>⟨rfl,fun j x y h=>by simp at h⟩
 | x::a,y::b,h=>by
  unfold aq.ba at h;obtain⟨g,i⟩:=tW h.2;refine⟨by simp [g],fun j u v c d=>?_⟩;cases j with
  | zero=>simp at c d;subst c;subst d;exact h.1
  | succ j=>exact i j u v (by simpa using c) (by simpa using d)
 | [],_::_,h=>by unfold aq.ba at h;exact h.elim
 | _::_,[],h=>by unfold aq.ba at h;exact h.elim
theorem yA:∀ {h:List (Nat×HO)}{n:Nat}{o:HO},look h n=some o->(n,o)∈h
 | (m,x)::r,n,o,h=>by
  simp only [look] at h;split at h
  ·rename_i e;subst e;injection h with h;subst h;exact dj ..
  ·exact cD _ (yA h)
theorem JY{h:List (Nat×HO)}{n:Nat}(a:(ai h).contains n=true):∃ o,look h n=some o:=by
 cases b:look h n with
 | none=>rw [vF b] at a;cases a
 | some o=>exact⟨o,rfl⟩
theorem JZ{E:Env}{y M J:Gh}{z t D:List (Nat×HO)}{w O:World}{i:Nat->Nat}(H:aD E y (look z) w)(f9:∀ f m,(ai t).contains f=true->(ai t).contains m=true->i f=i m->f=m)(V:∀ f b,M.box f=some b->(ai t).contains f=true/\y.box (i f)=some b/\M.rc f=y.rc (i f))(b3:∀ f,(ai t).contains f=true->(∃ b,M.box f=some b)/\∃ o,look z (i f)=some o/\o≠.dead){E2:Env}(g0:E2.w0=w/\E2.I0=y.I/\(E2.K=fun k=>k<w.heap.size/\∀ f,M.box f≠some k)/\(E2.N=fun k=>w.heap.size<=k\/∃ f,M.box f=some k)/\E2.Gb=M/\E2.wb=w)(u:aD E2 J (look D) O)(hd:ai D=ai t)(g1:(D.all fun p=>kG (ai t) p.2)=true) :
  aD E {y with I:=J.I} (look (ha i D z)) O/\∀ f b,(ai t).contains f=true->J.box f=some b->y.box (i f)=some b/\y.rc (i f)=J.rc f:=by
 obtain⟨W,b4,g2,c0,b5,i1⟩:=g0;have b6:∀ f b,(ai t).contains f=true->J.box f=some b->y.box (i f)=some b/\y.rc (i f)=J.rc f:=fun f b l X=>by
  obtain⟨⟨b0,Y⟩,_⟩:=b3 f l;obtain⟨_,q1,q2⟩:=V f b0 Y;have C:=u.gb.box f b0 (by rw [b5];exact Y);have q4:=u.gb.rc f b0 (by rw [b5];exact Y);rw [X] at C;injection C with C;subst C
  exact⟨q1,by rw [q4,b5,q2]⟩
 refine⟨?_,b6⟩;have g3:∀ f m,(ai D).contains f=true->(ai D).contains m=true->i f=i m->f=m:=by rw [hd];exact f9
 have d8:w.heap.size<=O.heap.size:=by have:=u.size;rw [W] at this;exact this
 have a1:aW y w {y with I:=J.I} O:=⟨fun a P=>by have:=u.i0 a (by rw [b4];exact P);rw [W] at this;exact this,fun _ _ z=>z,fun _ _ z=>z,fun _ _ _=>rfl⟩
 have a2:∀ k,k<w.heap.size->(∀ f,M.box f≠some k)->O.heap[k]?=w.heap[k]?:=fun k b7 l=>by have:=(u.kept k (by rw [g2];exact⟨b7,l⟩)).2;rw [W] at this;exact this
 have Q:∀ m,(∃ f o,look D f=some o/\i f=m/\(ai t).contains f=true/\kG (ai t) o=true/\look (ha i D z) m=some (dv i o))\/((∀ f,(ai t).contains f=true->i f≠m)/\look (ha i D z) m=look z m):=fun m=>by
  by_cases g:∃ f,(ai t).contains f=true/\i f=m
  ·obtain⟨f,l,rfl⟩:=g;obtain⟨o,R⟩:=JY (h:=D) (n:=f) (by rw [hd];exact l);exact .inl ⟨f,o,R,rfl,l,bQ.1 g1 _ (yA R),JW g3 R⟩
  ·have d9:∀ f,(ai t).contains f=true->i f≠m:=fun f l e=>g ⟨f,l,e⟩
   exact .inr ⟨d9,JV fun f l=>d9 f (by rw [<- hd];exact l)⟩
 have b8:∀ m b,y.box m=some b->look z m≠some .dead->(∀ f,(ai t).contains f=true->i f≠m)->∀ f,M.box f≠some b:=fun m b X g4 g f l=>by obtain⟨q1,q2,_⟩:=V f b l;obtain⟨_,o,C,q4⟩:=b3 f q1;exact g f q1 (H.eC (i f) m b q2 X (fun e=>q4 (by rw [C] at e;injection e)) g4)
 have e0:∀ m,look (ha i D z) m≠some .dead->look z m≠some .dead:=fun m b1 he=>by
  rcases Q m with ⟨f,o,k1,k2,k3,k4,k5⟩ | ⟨k1,k2⟩
  ·obtain⟨_,i2,C,q4⟩:=b3 f k3;rw [k2,he] at C;injection C with C;exact q4 C.symm
  ·exact b1 (by rw [k2];exact he)
 have d0:∀ o,kG (ai t) o=true->dv i o≠.dead/\dv i o≠.row/\∀ s,dv i o≠.obj s:=fun o R=>by
  cases o with
  | box ag cs=>exact⟨by simp [dv],by simp [dv],by simp [dv]⟩
  | aA es=>exact⟨by simp [dv],by simp [dv],by simp [dv]⟩
  | row=>cases R
  | obj s=>cases R
  | dead=>cases R
 have e6:∀ v,iU (ai t) 3 v=true->∀ {x},aC J O v x->aC {y with I:=J.I} O (cE i 3 v) x:=fun v b2 x d6=>Cz (G:=J) (G':={y with I:=J.I}) rfl b6 3 v b2 d6
 refine⟨?_,?_,?_,eX H.size d8,fun b X=>?_,fun a P=>?_,fun a P=>?_,u.cu,fun f l=>?_,fun m ag cs g=>?_,fun m b g=>?_,fun k m b q K q1 q2=>H.eC k m b q K (e0 k q1) (e0 m q2),fun r F=>?_,fun r e7 A f d7 sz A' e8 g5 g6 g7 g8=>?_,fun m s g=>?_,fun m es g=>?_,H.gb.trans a1,H.gB⟩
 ·have:=u.os;rw [W] at this;exact this.trans H.os
 ·have:=u.tape;rw [W] at this;exact this.trans H.tape
 ·have:=u.output;rw [W] at this;exact this.trans H.output
 ·obtain⟨q,K⟩:=H.kept b X;exact⟨q,(a2 b (fx q H.size) (fun f l=>(H.bJ _ b (V f b l).2.1).2.1 X)).trans K⟩
 ·obtain⟨q,K⟩:=H.i0 a P;exact⟨(a1.ef a q).1,(a1.ef a q).2.trans K⟩
 ·rcases u.eo a P with q | q
  ·rw [b4] at q;exact H.eo a q
  ·rw [c0] at q;rcases q with q | ⟨f,l⟩
   ·exact .inr (E.hN _ (eX H.size q))
   ·exact .inr (H.bJ _ _ (V f _ l).2.1).2.2.2
 ·rcases Q f with ⟨e8,o,k1,k2,k3,k4,k5⟩ | ⟨k1,k2⟩
  ·rw [k5] at l;cases l
  ·rw [k2] at l;exact H.fresh f l
 ·rcases Q m with ⟨f,o,k1,k2,k3,k4,k5⟩ | ⟨k1,k2⟩
  ·rw [k5] at g;injection g with g
   cases o with
   | box g9 h3 =>
    simp only [dv] at g;injection g with h5 Z;subst h5;subst Z
    obtain⟨b,S,ty,B,N,L,e4,e5⟩:=u.box f g9 h3 k1;obtain⟨c1,c2⟩:=b6 f b k3 B;subst k2;simp only [kG] at k4;refine⟨b,S,ty,c1,N,⟨by simpa using L.1,fun k c v b7 b2=>?_⟩,fun c h6=>?_,by show (y.rc (i f)).defers<=_;rw [c2];exact e5⟩
    ·simp only [bG,bZ] at b7;obtain⟨d,b9,rfl⟩:=b7;exact e6 d (bQ.1 k4 d (dh b9)) (L.2 k d v b9 b2)
    ·obtain⟨d,b9,rfl⟩:=aS.1 h6;rw [JU];exact e4 d b9
   | aA es=>simp [dv] at g
   | row=>cases k4
   | obj s=>cases k4
   | dead=>cases k4
  ·rw [k2] at g;obtain⟨b,S,ty,B,N,L,e4⟩:=H.box m ag cs g;exact⟨b,S,ty,B,(a2 b (H.bJ m b B).1 (b8 m b B (by rw [g];simp) k1)).trans N,L.mono a1,e4⟩
 ·obtain⟨f1,f2,f3,f4⟩:=H.bJ m b g;refine⟨fx f1 d8,f2,fun b1 a e P=>?_,f4⟩;rcases Q m with ⟨f,o,k1,k2,k3,k4,k5⟩ | ⟨k1,k2⟩
  ·obtain⟨⟨b0,Y⟩,_⟩:=b3 f k3;have q1:=(V f b0 Y).2.1;rw [k2,g] at q1;injection q1 with q1;subst q1
   have C:=u.gb.box f b (by rw [b5];exact Y);refine(u.bJ f b C).2.2.1 (fun T=>?_) a e P;rw [k1] at T;injection T with T;subst T;cases k4
  ·rw [k2] at b1;rcases u.eo a P with q | q
   ·rw [b4] at q;exact f3 b1 a e q
   ·rw [c0] at q;rcases q with q | ⟨f,l⟩
    ·omega
    ·rw [e] at l;exact b8 m b g b1 k1 f l
 ·rcases Q r with ⟨f,o,k1,k2,k3,k4,k5⟩ | ⟨k1,k2⟩
  ·rw [k5] at F;injection F with F;exact absurd F (d0 o k4).2.1
  ·rw [k2] at F;obtain⟨A,k,d7,sz,f1,f2⟩:=H.row r F;refine⟨A,k,d7,sz,f1,fun j h7 h8=>?_⟩;obtain⟨ad,e,d1,d2,d3,d4,d5⟩:=f2 j h7 h8;have h9:ad.block<w.heap.size:=by obtain⟨v,b2⟩:=eI.1 d1;have:=d_ w _ b2;rwa [block_add] at this
   have e9:∀ f,M.box f≠some ad.block:=fun f l=>d5 _ (V f _ l).2.1
   have f0:O.heap[(ad.add j).block]?=w.heap[(ad.add j).block]?:=by rw [block_add];exact a2 _ h9 e9
   refine⟨ad,e,by rw [sU f0];exact d1,by rw [xz f0];exact d2,fun hi=>?_,d4,d5⟩;rcases u.eo _ hi with U | U
   ·rw [b4] at U;exact d3 U
   ·rw [c0] at U;simp only [block_add] at U;rcases U with U | ⟨f,l⟩
    ·omega
    ·exact e9 f l
 ·have f5:∀ r,look (ha i D z) r=some .row->look z r=some .row:=fun r F=>by
   rcases Q r with ⟨f,o,k1,k2,k3,k4,k5⟩ | ⟨k1,k2⟩
   ·rw [k5] at F;injection F with F;exact absurd F (d0 o k4).2.1
   ·rw [<- k2];exact F
  exact H.eZ r e7 A f d7 sz A' e8 g5 g6 (f5 r g7) (f5 e7 g8)
 ·rcases Q m with ⟨f,o,k1,k2,k3,k4,k5⟩ | ⟨k1,k2⟩
  ·rw [k5] at g;injection g with g;exact absurd g ((d0 o k4).2.2 s)
  ·rw [k2] at g;obtain⟨b,B,N⟩:=H.obj m s g;exact⟨b,B,(a2 b (H.bJ m b B).1 (b8 m b B (by rw [g];simp) k1)).trans N⟩
 ·rcases Q m with ⟨f,o,k1,k2,k3,k4,k5⟩ | ⟨k1,k2⟩
  ·rw [k5] at g;injection g with g
   cases o with
   | aA a0 =>
    simp only [dv] at g;injection g with g;subst g
    obtain⟨b,S,ck,B,N,L⟩:=u.aA f a0 k1;obtain⟨c1,c2⟩:=b6 f b k3 B;subst k2;simp only [kG] at k4;have f6:(a0.map fun e=>(e.1,cE i 3 e.2)).map (·.1)=a0.map (·.1):=by rw [dA];rfl
    have f7:=vq f6;refine⟨b,S,ck,c1,N,L.1,?_⟩;cases Z:eB a0 with
    | true =>
     have K:=L.2;rw [aj Z] at K;rw [aj (by rw [f7,Z])];intro v;have i0:(a0.map fun e=>(e.1,cE i 3 e.2)).tail.map (·.1)=a0.tail.map (·.1):=by have:=congrArg List.tail f6;simpa using this
     rw [i0];exact K v
    | false =>have K:=L.pos Z;rw [ab (by rw [f7,Z];simp)];refine⟨by simp [K.1],fun k e x he d6=>?_⟩;simp only [bG,bZ] at he;obtain⟨T,f8,rfl⟩:=he;obtain⟨j1,j2⟩:=K.2 k T x f8 d6;exact⟨j1,e6 _ (bQ.1 k4 T (dh f8)) j2⟩
   | box ag cs=>simp [dv] at g
   | row=>cases k4
   | obj s=>cases k4
   | dead=>cases k4
  ·rw [k2] at g;obtain⟨b,S,ck,B,N,L⟩:=H.aA m es g;exact⟨b,S,ck,B,(a2 b (H.bJ m b B).1 (b8 m b B (by rw [g];simp) k1)).trans N,L.mono a1⟩
theorem yB{P:Program}{f:FuncId}{T:Cx->List AV->List (Nat×HO)->(bK->List (Nat×HO)->Prop)->Prop}(a1:cW P f T){X:FuncId->List D->Out->Prop}(d4:∀ f ds J,X f ds J->dO P f ds J){g:List (Nat×HO)}{Y:List AV}{R:bK->List (Nat×HO)->Prop}(d5:(g.all fun p=>kG (ai g) p.2)=true)(a2:∀ J i,R J i->JX g J i)(d6:T {C:=X,B:=newName g} Y g (wh (newName g) R)):cW P f (mh g Y R):=by
 refine⟨a1.1,fun d7 cx y h w Q b0 d8 H f0 S z=>?_⟩;obtain⟨F,e1,e2,e3,b3⟩:=z;have b4:∀ n m,(ai g).contains n=true->(ai g).contains m=true->aw F n=aw F m->n=m:=fun n m L hm Z=>by
  have d9:n∈ai g:=by simpa using L
  have e0:m∈ai g:=by simpa using hm
  have:=bQ.1 (bQ.1 e1 n d9) m e0;rw [Z] at this;simpa using this
 let e4:Gh:={I:=fun _=>False,box:=fun _=>none,row:=fun _=>none}
 let E1:Env:={d7 with B:=0,Gb:=e4,wb:=w}
 have H1:aD E1 y (look h) w:=⟨H.os,H.tape,H.output,H.size,H.kept,H.i0,H.eo,H.cu,H.fresh,H.box,H.bJ,H.eC,H.row,H.eZ,H.obj,H.aA,⟨fun _ h=>h.elim,fun _ _ h=>(by cases h),fun _ _ h=>(by cases h),fun _ _ h=>(by cases h)⟩,⟨fun _ _ h=>(by cases h),fun _ _ h=>(by cases h)⟩⟩;have j:=(Sub.IX (σ:=⟨[],h,[]⟩) (τ:=⟨[],g,[]⟩) (E:=E1) (a:={tmps:=#[],defers:=[]}) (nt:=0) ⟨H1,rfl,fun t e Z=>(by simp [bn] at Z),.nil⟩ e1 trivial e3 (by simp [E1]) trivial).wr;simp only at j;obtain⟨x,U⟩:∃ x,x=eb y (aw F) (cj [] g) (bg [] g):=⟨_,rfl⟩;have e5:∀ n,bg [] g n=(ai g).contains n:=fun n=>by simp [bg,bc]
 have b5:∀ n b,x.box n=some b->(ai g).contains n=true/\y.box (aw F n)=some b/\x.rc n=y.rc (aw F n):=fun n b l=>by
  rw [U] at l |-;simp only [eb] at l |-;split at l
  ·rename_i A;exact⟨by rw [<- e5];exact A,l,trivial⟩
  ·cases l
 rw [<- U] at j;have b6:∀ n o,look g n=some o->kG (ai g) o=true:=fun n o A=>bQ.1 d5 _ (yA A)
 have b7:∀ n,(ai g).contains n=true->(∃ b,x.box n=some b)/\∃ o,look h (aw F n)=some o/\o≠.dead:=fun n L=>by
  obtain⟨o,A⟩:=JY L;have i:=oB e3 A;have a0:=b6 n o A;cases o with
  | box ag cs =>
   obtain⟨b,_,_,q,_⟩:=j.box n ag cs A;refine⟨⟨b,q⟩,?_⟩;obtain⟨_,i⟩:=i;simp only at i;split at i
   ·rename_i hl;exact⟨_,hl,by simp⟩
   ·exact i.elim
  | aA es =>
   obtain⟨b,_,_,q,_⟩:=j.aA n es A;refine⟨⟨b,q⟩,?_⟩;obtain⟨_,i⟩:=i;simp only at i;split at i
   ·rename_i hl;exact⟨_,hl,by simp⟩
   ·exact i.elim
  | row=>cases a0
  | obj s=>cases a0
  | dead=>cases a0
 have b8:x.I=y.I:=by rw [U];rfl
 have b9:∀ n,look g n≠none->n<newName g:=fun n L=>by
  cases c0:look g n with
  | none=>exact absurd c0 L
  | some o=>exact pV c0
 let V:Env:={w0:=w,I0:=y.I,K:=fun k=>k<w.heap.size/\∀ n,x.box n≠some k,B:=newName g,Gb:=x,wb:=w,gl:=H.gl,N:=fun k=>w.heap.size<=k\/∃ n,x.box n=some k,hN:=fun _ h=>.inl h}
 have W2:aD V x (look g) w:=⟨rfl,rfl,rfl,bj _,fun k z=>⟨z.1,rfl⟩,fun e6 W=>⟨by rw [b8];exact W,rfl⟩,fun e6 W=>.inl (by rw [b8] at W;exact W),j.cu,j.fresh,j.box,fun n b l=>⟨(j.bJ n b l).1,fun z=>z.2 n l,(j.bJ n b l).2.2.1,.inr ⟨n,l⟩⟩,j.eC,fun r S=>(by have:=b6 r _ S;cases this),j.eZ,j.obj,j.aA,aW.refl x w,
  ⟨fun n b l=>b9 n (fun e=>by have:=(j.fresh n e).1;rw [l] at this;cases this),fun n r l=>b9 n (fun e=>by have:=(j.fresh n e).2;rw [l] at this;cases this)⟩⟩
 obtain⟨l1,l2⟩:=tW e2;have e7:=a1.2 V {C:=X,B:=newName g} x g w Y b0 _ W2 ⟨rfl,fun ro y h w Q b0 d8 _ _ e8=>e8.elim,fun _=>rfl,d4⟩ ⟨by rw [S.1,l1],fun k c u z hu=>by
  have c1:k<Q.length:=by rw [l1];exact(bu.1 z).1
  rw [U];exact rL 3 _ _ (l2 k Q[k] c (aI c1) z) (S.2 k Q[k] u (aI c1) hu)⟩ d6
 refine AQ e7 fun e w' M=>?_
 obtain⟨f1,f2,c2,M⟩:=M;cases e with
 | returned v =>obtain⟨f3,k1,e9,i,k2,k3⟩:=M;obtain⟨O,d0,W3,k4⟩:=JS c2 k1 k2;obtain⟨d1,d2,d3⟩:=a2 _ _ k3;obtain⟨b1,b2⟩:=JZ (E2:=V) H b4 b5 b7 ⟨rfl,rfl,rfl,rfl,rfl,rfl⟩ W3 d1 d2;exact⟨_,_,b1,_,Cz (G:=O) (G':={y with I:=O.I}) rfl b2 3 e9 d3 k4,b3 _ _ k3⟩
 | panicked ch =>obtain⟨v,d,k0,k1,i,k2,k3⟩:=M;obtain⟨O,d0,W3⟩:=JT c2 k2;obtain⟨d1,d2,d3⟩:=a2 _ _ k3;obtain⟨b1,b2⟩:=JZ (E2:=V) H b4 b5 b7 ⟨rfl,rfl,rfl,rfl,rfl,rfl⟩ W3 d1 d2;exact⟨_,_,b1,v,d,k0,by rw [show ({y with I:=O.I}:Gh).I=O.I from rfl,d0];exact k1,b3 _ _ k3⟩
 | outgrown=>exact M.elim
def bR(N:List Nat):Nat->AV->Bool
 | _,.d _=>true
 | _,.ptr n _=>N.contains n
 | _,.mp n=>N.contains n
 | _,.aE n _ _ _ _=>N.contains n
 | _,.e0 _=>true
 | k+1,.fn _ a b=>a.all (bR N k)&&b.all (bR N k)
 | _,_=>false
def iV(N:List Nat):HO->Bool
 | .box _ a=>a.all fun c=>bR N 2 c
 | .aA b=>b.all fun e=>bR N 1 e.2
 | _=>false
theorem yC{N:List Nat}:∀ (k:Nat) (v:AV),bR N k v=true->iU N (k+1) v=true
 | 0,v,h=>by cases v <;> first | exact h | cases h
 | k+1,v,h=>by
  cases v with
  | fn f a b =>simp only [bR,ax,bQ] at h;simp only [iU,ax,bQ];exact⟨fun x c=>yC k x (h.1 x c),fun x c=>yC k x (h.2 x c)⟩
  | _=>first | exact h | cases h
theorem CA:∀ (k:Nat) (v:AV),cE (aw []) k v=v
 | 0,v=>by cases v <;> rfl
 | k+1,v=>by
  have b:∀ l:List AV,l.map (cE (aw []) k)=l:=fun l=>by
   conv=>rhs;rw [<- AT l]
   exact jF fun a _=>CA k a
  cases v <;> simp only [cE,b] <;> rfl
theorem J_(o:HO):dv (aw []) o=o:=by
 cases o with
 | box d b =>
  simp only [dv];congr 1
  conv=>rhs;rw [<- AT b]
  exact jF fun a _=>CA 3 a
 | aA c =>
  simp only [dv];congr 1
  conv=>rhs;rw [<- AT c]
  exact jF fun a _=>by rw [CA];rfl
 | _=>rfl
theorem CB:∀ {h:List (Nat×HO)}{n:Nat}{o:HO},look h n=some o->aM h n o=h
 | (m,x)::r,n,o,a=>by
  simp only [look] at a;simp only [aM];split
  ·rename_i e;rw [aj e] at a;injection a with a;rw [a]
  ·rename_i e;rw [ab e] at a;rw [CB a]
theorem J'{h:List (Nat×HO)}:∀ {a:List (Nat×HO)},(∀ p∈a,look h p.1=some p.2)->ha (aw []) a h=h
 | [],_=>rfl
 | (n,o)::r,b=>by rw [ha,J' fun p c=>b p (cD _ c),J_];exact CB (b (n,o) (dj ..))
theorem fc(n:Nat):aw [] n=n:=rfl
theorem CC{N:List Nat}{i:Nat->Bool}{j:Nat->Option Nat}(e:∀ n,N.contains n=true->i n=true):∀ (k:Nat) (v:AV),bR N k v=true->aq (aw []) j i (k+1) v v
 | 0,v,h=>by
  cases v <;> (try cases h)
  ·unfold aq;exact aB.refl _
  ·unfold aq;exact⟨rfl,rfl,e _ h⟩
  ·unfold aq;exact⟨rfl,rfl,rfl,rfl,rfl,e _ h⟩
  ·unfold aq;exact⟨rfl,e _ h⟩
  ·unfold aq;rfl
 | k+1,v,h=>by
  have g:∀ l:List AV,l.all (bR N k)=true->aq.ba (aw []) j i (k+1) l l:=fun l=>by
   induction l with
   | nil=>intro _;unfold aq.ba;trivial
   | cons a l m =>intro g;simp only [jG,ax] at g;unfold aq.ba;exact⟨CC e k a g.1,m g.2⟩
  cases v with
  | fn f a b =>simp only [bR,ax] at h;unfold aq;exact⟨rfl,g a h.1,g b h.2⟩
  | d x=>unfold aq;exact aB.refl _
  | ptr n o=>unfold aq;exact⟨rfl,rfl,e _ h⟩
  | aE n o z l c=>unfold aq;exact⟨rfl,rfl,rfl,rfl,rfl,e _ h⟩
  | mp n=>unfold aq;exact⟨rfl,e _ h⟩
  | e0 z=>unfold aq;rfl
  | own r z q=>cases h
  | spare r z n=>cases h
  | agg p=>cases h
  | af p=>cases h
theorem wi{N:List Nat}{c:Nat->Bool}{e:Nat->Option Nat}(d:∀ n,N.contains n=true->c n=true)(k:Nat):∀ l:List AV,l.all (bR N k)=true->aq.ba (aw []) e c (k+1) l l
 | [],_=>by unfold aq.ba;trivial
 | a::l,b=>by simp only [jG,ax] at b;unfold aq.ba;exact⟨CC d k a b.1,wi d k l b.2⟩
theorem CD{N:List Nat}:∀ (k:Nat) (v:AV),bR N k v=true->bR N (k+1) v=true
 | 0,v,h=>by cases v <;> first | exact h | cases h
 | k+1,v,h=>by
  cases v with
  | fn f a b =>simp only [bR,ax,bQ] at h |-;exact⟨fun x c=>CD k x (h.1 x c),fun x c=>CD k x (h.2 x c)⟩
  | _=>first | exact h | cases h
def jt:HO->Prop
 | .box _ a=>∀ c∈a,c.one=true
 | _=>True
theorem tX{σ:St}{h0:List (Nat×HO)}:∀ {l:List (Nat×HO)},(∀ p∈l,look σ.h p.1=some p.2)->(l.all fun p=>iV (ai h0) p.2)=true->(∀ p∈l,jt p.2)->fX [] [] σ h0 l
 | [],_,_,_=>trivial
 | (n,o)::r,f,a,g=>by
  simp only [jG,ax] at a;refine⟨?_,tX (fun p b=>f p (cD _ b)) a.2 fun p b=>g p (cD _ b)⟩;have h:=f (n,o) (dj ..);have q:=g (n,o) (dj ..);have i:∀ k,(ai h0).contains k=true->bg [] h0 k=true:=fun k t=>by simp [bg,bc];simpa using t
  cases o with
  | box v d =>
   refine⟨rfl,?_⟩;rw [fc];show match look σ.h n with
    | some (.box _ u)=>aq.ba (aw []) (cj [] h0) (bg [] h0) 3 u d/\∀ c∈d,c.one=true
    | _=>False
   rw [h];exact⟨wi i 2 d a.1,q⟩
  | aA e =>
   refine⟨rfl,?_⟩;rw [fc];show match look σ.h n with
    | some (.aA j)=>j.map (·.1)=e.map (·.1)/\aq (aw []) (cj [] h0) (bg [] h0) 3 (.af (j.map (·.2))) (.af (e.map (·.2)))
    | _=>False
   rw [h];refine⟨rfl,?_⟩;unfold aq;have m:=a.1;simp only [iV] at m;exact wi i 1 (e.map (·.2)) (by rw [Hq];exact m)
  | row=>cases a.1
  | obj s=>cases a.1
  | dead=>cases a.1
theorem Ka{N:List Nat}{o:HO}(h:iV N o=true):kG N o=true:=by
 cases o with
 | box d f =>simp only [iV,kG,bQ] at h |-;exact fun c a=>yC 2 c (h c a)
 | aA g =>simp only [iV,kG,bQ] at h |-;exact fun e b=>yC 2 e.2 (CD 1 e.2 (h e b))
 | _=>cases h
theorem rX(l:List Nat):(l.all fun n=>l.all fun m=>aw [] n != aw [] m||n == m)=true:=by rw [bQ];intro n _;rw [bQ];intro m _;rw [fc,fc];by_cases h:n=m <;> simp [h]
def qq(a:List (Nat×HO))(d:D)(b:bK)(c:List (Nat×HO)):Prop:=b=.ret (.d d)/\c=a
def kH(a:List (Nat×HO)):Prop:=(a.all fun p=>iV (ai a) p.2)=true/\∀ p∈a,jt p.2
theorem rY{a:List (Nat×HO)}{b:List AV}{d:D}{f:Cx}{h:List (Nat×HO)}{K:bK->List (Nat×HO)->Prop}(c:kH a)(g:(b.all (bR (ai a) 2))=true)(e:∀ p∈a,look h p.1=some p.2)(i:K (.ret (.d d)) h):mh a b (qq a d) f b h K:=by
 have j:∀ k,(ai a).contains k=true->bg [] a k=true:=fun k l=>by simp [bg,bc];simpa using l
 refine⟨[],rX _,wi j 2 b g,tX e c.1 c.2,fun n o m=>?_⟩;obtain⟨rfl,rfl⟩:=m;rw [J' e];exact i
theorem oN{P:Program}{f:FuncId}{T:Cx->List AV->List (Nat×HO)->(bK->List (Nat×HO)->Prop)->Prop}(i:cW P f T){c:FuncId->List D->Out->Prop}(j:∀ f e b,c f e b->dO P f e b){a:List (Nat×HO)}{g:List AV}{d:D}(k:kH a)(l:T {C:=c,B:=newName a} g a (wh (newName a) (qq a d))):cW P f (mh a g (qq a d)):=by
 have h:(a.all fun p=>kG (ai a) p.2)=true:=bQ.2 fun p m=>Ka (bQ.1 k.1 p m)
 refine yB i j h (fun b o n=>?_) l;obtain⟨rfl,rfl⟩:=n;exact⟨rfl,h,rfl⟩
theorem et{a b:List (Nat×HO)}{d:D}{v:AV}(c:kH a)(e:((List.range (newName a)).all fun n=>(ai a).contains n)=true)(f:∀ p∈a,look b p.1=some p.2)(g:aq (aw []) (cj [] a) (bg [] a) 3 v (.d d)):wh (newName a) (qq a d) (.ret v) b:=by refine⟨.d d,a,⟨[],[],rX _,⟨⟨rfl,rfl,g⟩,trivial⟩,tX f c.1 c.2,?_,trivial⟩,rfl,rfl⟩;rw [bQ] at e |-;intro n h;have:=e n h;simp only [gy,ax];exact .inr ⟨by simp [fc],by simp [bc],this⟩
theorem CE{N:List Nat}{d:Nat->Nat}:∀ (k:Nat) (v:AV),bR N k v=true->cE d (k+1) v=cE d (k+2) v
 | 0,v,h=>by cases v <;> first | rfl | cases h
 | k+1,v,h=>by
  cases v with
  | fn f a b =>
   simp only [bR,ax,bQ] at h;simp only [cE];congr 1
   ·exact jF fun x c=>CE k x (h.1 x c)
   ·exact jF fun x c=>CE k x (h.2 x c)
  | _=>first | rfl | cases h
theorem Kb{N:List Nat}{i:Nat->Nat}{j:Nat->Bool}{m:Nat->Option Nat}(e:∀ n,N.contains n=true->j n=true):∀ (k:Nat) (v:AV),bR N k v=true->aq i m j (k+1) (cE i (k+1) v) v
 | 0,v,h=>by
  cases v <;> (try cases h) <;> unfold cE
  ·unfold aq;exact aB.refl _
  ·unfold aq;exact⟨rfl,rfl,e _ h⟩
  ·unfold aq;exact⟨rfl,rfl,rfl,rfl,rfl,e _ h⟩
  ·unfold aq;exact⟨rfl,e _ h⟩
  ·unfold aq;rfl
 | k+1,v,h=>by
  have g:∀ l:List AV,l.all (bR N k)=true->aq.ba i m j (k+1) (l.map (cE i (k+1))) l:=fun l=>by
   induction l with
   | nil=>intro _;unfold aq.ba;trivial
   | cons a l p =>intro g;simp only [jG,ax] at g;rw [bo];unfold aq.ba;exact⟨Kb e k a g.1,p g.2⟩
  cases v with
  | fn f a b =>simp only [bR,ax] at h;unfold cE aq;exact⟨rfl,g a h.1,g b h.2⟩
  | d x=>unfold cE aq;exact aB.refl _
  | ptr n o=>unfold cE aq;exact⟨rfl,rfl,e _ h⟩
  | aE n o z l c=>unfold cE aq;exact⟨rfl,rfl,rfl,rfl,rfl,e _ h⟩
  | mp n=>unfold cE aq;exact⟨rfl,e _ h⟩
  | e0 z=>unfold cE aq;rfl
  | own r z s=>cases h
  | spare r z n=>cases h
  | agg q=>cases h
  | af q=>cases h
theorem yD{N:List Nat}{c:Nat->Nat}{d:Nat->Bool}{f:Nat->Option Nat}(e:∀ n,N.contains n=true->d n=true)(k:Nat):∀ l:List AV,l.all (bR N k)=true->aq.ba c f d (k+1) (l.map (cE c (k+1))) l
 | [],_=>by unfold aq.ba;trivial
 | a::l,b=>by simp only [jG,ax] at b;rw [bo];unfold aq.ba;exact⟨Kb e k a b.1,yD e k l b.2⟩
theorem yE{g:St}{a:List (Nat×Nat)}{b:List (Nat×HO)}:∀ {l:List (Nat×HO)},(∀ p∈l,look g.h (aw a p.1)=some (dv (aw a) p.2))->(l.all fun p=>iV (ai b) p.2)=true->(∀ p∈l,jt p.2)->fX a [] g b l
 | [],_,_,_=>trivial
 | (n,o)::r,q,d,t=>by
  simp only [jG,ax] at d;refine⟨?_,yE (fun p h=>q p (cD _ h)) d.2 fun p h=>t p (cD _ h)⟩;have i:=q (n,o) (dj ..);have w:=t (n,o) (dj ..);simp only at i;have u:∀ k,(ai b).contains k=true->bg [] b k=true:=fun k y=>by simp [bg,bc];simpa using y
  cases o with
  | box B j =>
   refine⟨rfl,?_⟩;show match look g.h (aw a n) with
    | some (.box _ z)=>aq.ba (aw a) (cj [] b) (bg [] b) 3 z j/\∀ c∈j,c.one=true
    | _=>False
   rw [i];exact⟨yD u 2 j d.1,w⟩
  | aA f =>
   refine⟨rfl,?_⟩;show match look g.h (aw a n) with
    | some (.aA v)=>v.map (·.1)=f.map (·.1)/\aq (aw a) (cj [] b) (bg [] b) 3 (.af (v.map (·.2))) (.af (f.map (·.2)))
    | _=>False
   rw [i];simp only [dv];refine⟨by rw [dA];rfl,?_⟩;have m:=d.1;simp only [iV] at m;have e:(f.map fun e=>(e.1,cE (aw a) 3 e.2)).map (·.2)=(f.map (·.2)).map (cE (aw a) 2):=by rw [dA,dA];exact jF fun x A=>(CE 1 x.2 (bQ.1 m x A)).symm
   rw [e];unfold aq;exact yD u 1 (f.map (·.2)) (by rw [Hq];exact m)
  | row=>cases d.1
  | obj s=>cases d.1
  | dead=>cases d.1
theorem CF{a:Nat->Nat}{h:List (Nat×HO)}:∀ {b:List (Nat×HO)},(∀ p∈b,look h (a p.1)=some (dv a p.2))->ha a b h=h
 | [],_=>rfl
 | (n,o)::r,c=>by rw [ha,CF fun p d=>c p (cD _ d)];exact CB (c (n,o) (dj ..))
theorem Kc{a:List (Nat×HO)}{e c:List AV}{d:D}{i:Cx}{h:List (Nat×HO)}{K:bK->List (Nat×HO)->Prop}(b:List (Nat×Nat))(f:kH a)(j:((ai a).all fun n=>(ai a).all fun m=>aw b n != aw b m||n == m)=true)(l:(c.all (bR (ai a) 2))=true)(o:e=c.map (cE (aw b) 3))(g:∀ p∈a,look h (aw b p.1)=some (dv (aw b) p.2))(q:K (.ret (.d d)) h):mh a c (qq a d) i e h K:=by
 have r:∀ k,(ai a).contains k=true->bg [] a k=true:=fun k s=>by simp [bg,bc];simpa using s
 refine⟨b,j,by rw [o];exact yD r 2 c l,yE g f.1 f.2,fun u v t=>?_⟩;obtain⟨rfl,rfl⟩:=t;rw [CF g];exact q
theorem CG{a:List (Nat×HO)}{c e:List AV}{d:D}{i:Cx}{h:List (Nat×HO)}{K:bK->List (Nat×HO)->Prop}(b:List (Nat×Nat))(f:kH a)(j:((ai a).all fun n=>(ai a).all fun m=>aw b n != aw b m||n == m)=true)(k:aq.ba (aw b) (cj [] a) (bg [] a) 3 c e)(g:∀ p∈a,look h (aw b p.1)=some (dv (aw b) p.2))(l:K (.ret (.d d)) h):mh a e (qq a d) i c h K:=by refine⟨b,j,k,yE g f.1 f.2,fun q r o=>?_⟩;obtain⟨rfl,rfl⟩:=o;rw [CF g];exact l
theorem XR{a:Type}(b:Nat->Nat)(f:a->Value×D)(l:List a):dv b (.aA (l.map fun x=>((f x).1,.d (f x).2)))=.aA (l.map fun x=>((f x).1,.d (f x).2)):=by simp only [dv,dA];congr 1
theorem wj{h0 a c:List (Nat×HO)}{R:bK->List (Nat×HO)->Prop}{v b:AV}(d:kH a)(e:((List.range (newName h0)).all fun n=>(ai a).contains n)=true)(f:∀ p∈a,look c p.1=some p.2)(g:aq (aw []) (cj [] a) (bg [] a) 3 v b)(h:R (.ret b) a):wh (newName h0) R (.ret v) c:=by refine⟨b,a,⟨[],[],rX _,⟨⟨rfl,rfl,g⟩,trivial⟩,tX f d.1 d.2,?_,trivial⟩,h⟩;rw [bQ] at e |-;intro n i;have:=e n i;simp only [gy,ax];exact .inr ⟨by simp [fc],by simp [bc],this⟩
theorem yF{h:List (Nat×HO)}(a:kH h):(h.all fun p=>kG (ai h) p.2)=true:=bQ.2 fun p b=>Ka (bQ.1 a.1 p b)
theorem CH{a b:List (Nat×HO)}{v:AV}(c:ai b=ai a)(d:kH b)(e:iU (ai a) 3 v=true):JX a (.ret v) b:=⟨c,by rw [<- c];exact yF d,e⟩
theorem yG{b:List (Nat×HO)}{c d:List AV}{R:bK->List (Nat×HO)->Prop}{i:Cx}{h:List (Nat×HO)}{K:bK->List (Nat×HO)->Prop}(a:List (Nat×Nat))(e:kH b)(j:((ai b).all fun n=>(ai b).all fun m=>aw a n != aw a m||n == m)=true)(k:aq.ba (aw a) (cj [] b) (bg [] b) 3 c d)(l:∀ p∈b,look h (aw a p.1)=some (dv (aw a) p.2))(o:∀ f g,R f g->K (tV (aw a) f) (ha (aw a) g h)):mh b d R i c h K:=⟨a,j,k,yE l e.1 e.2,o⟩
end

end Go.Proofs.YtloccchppmffpaaGreatDoor.AL
