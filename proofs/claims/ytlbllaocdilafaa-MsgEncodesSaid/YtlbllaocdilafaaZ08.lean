import Derived.Test.YtlbllaocdilafaaZ07
set_option linter.unusedSimpArgs false
set_option linter.unusedVariables false
namespace Go.Eng
open Go Go.RowKit
section
variable {P:Program}{W0:World}{m0:Nat}{ρ:Ren}
theorem TRel.put {tmps:List V}{a:Act}(h:TRel ρ tmps a.tmps){dst:Option Tmp}{v:V}{u:Value}(hv:VRel ρ v u):TRel ρ (putV tmps dst v) (a.put dst u).tmps:=by
 cases dst with
 |none=>exact h
 |some d=>
  refine⟨by simp[Act.put,putV,h.1],fun j x hx=>?_⟩
  simp only[putV,List.getElem?_set]at hx
  simp only[Act.put,Array.getElem?_setIfInBounds]
  by_cases hdj:d=j
  ·subst hdj
   rw[if_pos rfl]at hx ⊢
   by_cases hl:d<tmps.length
   ·rw[if_pos hl]at hx
    simp only[sie]at hx
    subst hx
    exact⟨u,by rw[if_pos (by rw[h.1];exact hl)],hv⟩
   ·rw[if_neg hl]at hx;cases hx
  ·rw[if_neg hdj]at hx ⊢
   exact h.2 j x hx
theorem TRel.getD {tmps:List V}{arr:Array Value}(h:TRel ρ tmps arr) (d:Nat):VRel ρ (tmps.getD d (.tup [])) (arr.getD d undef):=
 VRel.opnd h (.tmp d) ⟨arr,[]⟩ rfl
theorem undef_rel:VRel ρ (.tup []) undef:=⟨#[],rfl,rfl,fun j x hx=>by simp at hx⟩
theorem wanted_of {ops:Array Oper}{tmps:List V}{o:Oper}{arr:Array Value}(h:TRel ρ tmps arr){d:Bool}(hw:wantedA ops tmps o=some d):Region.wanted o (yielded ops arr)=d:=by
 unfold wantedA at hw
 unfold Region.wanted
 split at hw
 ·rename_i hg
  simp only[sie]at hw
  simp[hg,hw]
 ·rename_i j want hg
  simp only[hg]
  split at hw
  ·rename_i t ht
   have hr:=h.getD t
   have hy:∀b,arr.getD t undef=.bool b→yielded ops arr j=some b:=by
    intro b hb
    unfold yielded
    rw[ht]
    simp only[Option.bind_some]
    rw[Array.getD_eq_getD_getElem?]at hb
    cases hx:arr[t]? with
    |none=>rw[hx]at hb;simp[undef]at hb
    |some u=>rw[hx]at hb;simp at hb;subst hb;rfl
   split at hw
   ·rename_i b hb
    rw[hb]at hr
    simp only[sie]at hw
    rw[hy b hr,←hw];rfl
   ·rename_i b hb
    rw[hb]at hr
    simp only[sie]at hw
    rw[hy b hr,←hw];rfl
   ·rename_i l hl
    rw[hl]at hr
    obtain⟨ar,e,-⟩:=hr
    simp only[sie]at hw
    have:yielded ops arr j=none:=by
     unfold yielded
     rw[ht]
     simp only[Option.bind_some]
     rw[Array.getD_eq_getD_getElem?]at e
     cases hx:arr[t]? with
     |none=>rfl
     |some u=>rw[hx]at e;simp at e;subst e;rfl
    rw[this,←hw];rfl
   ·cases hw
  ·cases hw
def DecOk (r:RS):Prop:=∀d h,(d,h)∈r.dec→∃b,r.tmps.getD d (.tup [])=.a (.one (.bool b))∧b=h
theorem lookup_mem {d:Tmp}{h:Bool}:∀{l:List (Tmp×Bool)},l.lookup d=some h→(d,h)∈l
 | [],e=>by cases e
 |(x,y)::l,e=>by
  simp only[List.lookup]at e
  split at e
  ·rename_i hb
   simp only[sie]at e
   have:d=x:=by simpa using hb
   simp[this,e]
  ·exact mcm _ (lookup_mem e)
theorem boolAt_obs {r r':RS}{d:Tmp}{t:Bool}(hb:boolAt arR r d=some (t,r')):∀q∈r.obs,q∈r'.obs:=by
 unfold boolAt at hb
 (repeat' split at hb)<;>first|(cases hb;done)|(simp only[sie,po]at hb;obtain⟨rfl,rfl⟩:=hb;intro q hq;first|exact hq|exact mcm _ hq)
theorem guardAt_obs {ops:Array Oper} {r r':RS}{o:Oper}{t:Bool}(hb:guardAt arR ops r o=some (t,r')):∀q∈r.obs,q∈r'.obs:=by
 unfold guardAt at hb
 split at hb
 ·simp only[sie,po]at hb;obtain⟨rfl,rfl⟩:=hb;exact fun q h=>h
 ·split at hb
  ·split at hb
   ·simp only[sie,po]at hb;obtain⟨rfl,rfl⟩:=hb;exact fun q h=>h
   ·split at hb
    ·rename_i b r2 hb2
     simp only[sie,po]at hb;obtain⟨rfl,rfl⟩:=hb;exact boolAt_obs hb2
    ·cases hb
  ·cases hb
theorem evOp_obs {ti:TypeId→TI}{tbl:Tbl}{al:Nat→Bool}{nm:Nat}{o:Oper} {r r':RS}{h:Heap}(he:evOp arR arR ti tbl al nm o r h=some r'):∀q∈r.obs,q∈r'.obs:=by
 unfold evOp at he
 split at he
 ·split at he
  ·rename_i t r2 hb
   simp only[sie]at he
   subst he
   exact fun q hq=>List.mem_append_right _ (boolAt_obs hb q hq)
  ·cases he
 ·split at he
  ·simp only[sie]at he
   subst he
   exact fun q hq=>List.mem_append_right _ hq
  ·cases he
theorem runOps_obs {ti:TypeId→TI}{tbl:Tbl}{ops:Array Oper}:∀{l:List Oper} {r r':RS},runOps arR arR ti tbl ops l r=some r'→∀q∈r.obs,q∈r'.obs
 | [],r,r',h=>by simp only[runOps,sie]at h;subst h;exact fun q h=>h
 |o::l,r,r',h=>by
  simp only[runOps]at h
  split at h
  ·cases h
  ·rename_i r2 hg
   exact fun q hq=>runOps_obs h q (List.mem_append_right _ (guardAt_obs hg q hq))
  ·rename_i r2 hg
   split at h
   ·rename_i r3 he
    exact fun q hq=>runOps_obs h q (evOp_obs he q (guardAt_obs hg q hq))
   ·cases h
theorem runDraw_obs {ti:TypeId→TI}{tbl:Tbl}{ops:Array Oper}{ws:Array Nat}{n0:Nat}:∀{l:List Oper}{i:Nat}{evs:List (Nat×Nat)} {r r':RS},runDraw arR arR ti tbl ops ws n0 evs i l r=some r'→∀q∈r.obs,q∈r'.obs
 | [],i,evs,r,r',h=>by simp only[runDraw,sie]at h;subst h;exact fun q h=>h
 |o::l,i,evs,r,r',h=>by
  simp only[runDraw]at h
  split at h
  ·cases h
  ·rename_i r2 hg
   exact fun q hq=>runDraw_obs h q (List.mem_append_right _ (guardAt_obs hg q hq))
  ·rename_i r2 hg
   split at h
   ·cases h
   split at h
   ·rename_i r3 he
    exact fun q hq=>runDraw_obs h q (evOp_obs he q (guardAt_obs hg q hq))
   ·cases h
theorem freeN_mono {al al':Nat→Bool}{h:Heap}{nm e:Nat}(hal:∀n,al n=true→al' n=true) (hf:freeN al h nm e=true):freeN al' h nm e=true:=by
 unfold freeN at hf ⊢
 rw[List.all_eq_true]at hf ⊢
 intro k hk
 have:=hf k hk
 simp only[bat,Bool.or_eq_true]at this ⊢
 exact⟨this.1,this.2.imp id (hal _)⟩
theorem performH_inv {al:Nat→Bool}{nm:Nat}{h:Heap}{ns:List Nat}{s:HSpec}{args:List A}{r:V×List Nat×List Blk×List Prop}(hp:performH al nm h ns s args=some r):ns.all al=true∧∃e,performI nm h ns s args=some (e,r)∧freeN al h nm e=true:=by
 unfold performH at hp
 split at hp
 ·rename_i ha
  split at hp
  ·rename_i e r' hI
   split at hp
   ·rename_i hf
    simp only[sie]at hp
    subst hp
    exact⟨ha,e,hI,hf⟩
   ·cases hp
  ·cases hp
 ·cases hp
theorem performH_of {al:Nat→Bool}{nm:Nat}{h:Heap}{ns:List Nat}{s:HSpec}{args:List A}{r:V×List Nat×List Blk×List Prop}{e:Nat}(ha:ns.all al=true) (hI:performI nm h ns s args=some (e,r)) (hf:freeN al h nm e=true):performH al nm h ns s args=some r:=by
 unfold performH
 rw[if_pos ha,hI]
 simp only
 rw[if_pos hf]
theorem callh_inv {al:Nat→Bool}{nm:Nat}{h h1:Heap}{s:HSpec}{args:List A}{v:V}{rs:List Prop}(hf:perform arR al nm h (.callh s args)=some (v,h1,rs)):
 (reachA h args).all al=true∧(reach h args).all al=true∧∃e ns bs,performI nm h (reach h args) s args=some (e,v,ns,bs,rs)∧freeN al h nm e=true∧h1=setMany h ns bs:=by
 simp only[perform]at hf
 split at hf
 ·rename_i ha
  split at hf
  ·rename_i v' ns bs ps hp
   simp only[sie,po]at hf
   obtain⟨rfl,rfl,rfl⟩:=hf
   obtain⟨h1,e,h2,h3⟩:=performH_inv hp
   exact⟨ha,h1,e,ns,bs,h2,h3,rfl⟩
  ·cases hf
 ·cases hf
theorem callh_of {al:Nat→Bool}{nm:Nat}{h:Heap}{s:HSpec}{args:List A}{v:V}{rs:List Prop}{e:Nat}{ns:List Nat}{bs:List Blk}(ha:(reachA h args).all al=true) (hb:(reach h args).all al=true) (hI:performI nm h (reach h args) s args=some (e,v,ns,bs,rs)) (hf:freeN al h nm e=true):
 perform arR al nm h (.callh s args)=some (v,setMany h ns bs,rs):=by
 simp only[perform]
 rw[if_pos ha,performH_of hb hI hf]
theorem perform_mono {al al':Nat→Bool}{nm:Nat}{h:Heap}{p:Plan}{x:V×Heap×List Prop}(hal:∀n,al n=true→al' n=true) (hp:perform arR al nm h p=some x):perform arR al' nm h p=some x:=by
 cases p with
 |callh s args=>
  obtain⟨v,h1,rs⟩:=x
  obtain⟨k1,k2,e,ns,bs,k3,k4,rfl⟩:=callh_inv hp
  have up:∀{l:List Nat},l.all al=true→l.all al'=true:=fun hl=>by
   rw[List.all_eq_true]at hl ⊢
   exact fun n hn=>hal n (hl n hn)
  exact callh_of (up k1) (up k2) k3 (freeN_mono hal k4)
 |fresh t s xs=>
  cases t with
  |none=>exact hp
  |some b=>
   simp only[perform]at hp ⊢
   by_cases ha:al b=true
   ·rw[if_pos ha]at hp;rw[if_pos (hal b ha)];exact hp
   ·rw[if_neg ha]at hp;cases hp
 |text b off len=>
  simp only[perform]at hp ⊢
  by_cases ha:al b=true
  ·rw[if_pos ha]at hp;rw[if_pos (hal b ha)];exact hp
  ·rw[if_neg ha]at hp;cases hp
 |copy b off n s=>
  simp only[perform]at hp ⊢
  by_cases ha:al b=true
  ·rw[if_pos ha]at hp;rw[if_pos (hal b ha)];exact hp
  ·rw[if_neg ha]at hp;cases hp
 |froze b k len cap ys=>
  simp only[perform]at hp ⊢
  by_cases ha:al b=true
  ·rw[if_pos ha]at hp;rw[if_pos (hal b ha)];exact hp
  ·rw[if_neg ha]at hp;cases hp
 |val v=>exact hp
 |load b off s ag=>
  simp only[perform]at hp ⊢
  by_cases ha:al b=true
  ·rw[if_pos ha]at hp;rw[if_pos (hal b ha)];exact hp
  ·rw[if_neg ha]at hp;cases hp
 |store b off y s=>
  simp only[perform]at hp ⊢
  by_cases ha:al b=true
  ·rw[if_pos ha]at hp;rw[if_pos (hal b ha)];exact hp
  ·rw[if_neg ha]at hp;cases hp
 |alloc g=>exact hp
theorem stepOp_mono {ti:TypeId→TI}{tbl:Tbl} {al al':Nat→Bool}{nm:Nat}{op:Op}{t:List V}{h:Heap}{x:V×Heap×List Prop}(hal:∀n,al n=true→al' n=true) (hp:stepOp arR arR ti tbl al nm op t h=some x):stepOp arR arR ti tbl al' nm op t h=some x:=by
 unfold stepOp at hp ⊢
 cases h1:planOp arR arR ti tbl (opnd t) op with
 |none=>rw[h1]at hp;cases hp
 |some pq=>
  rw[h1]at hp
  obtain⟨p,qs⟩:=pq
  simp only at hp ⊢
  cases h2:perform arR al nm h p with
  |none=>rw[h2]at hp;cases hp
  |some y=>rw[h2]at hp;rw[perform_mono hal h2];exact hp
theorem evOp_mono {ti:TypeId→TI}{tbl:Tbl} {al al':Nat→Bool}{nm:Nat}{o:Oper} {r r':RS}{h:Heap}(hal:∀n,al n=true→al' n=true) (hp:evOp arR arR ti tbl al nm o r h=some r'):evOp arR arR ti tbl al' nm o r h=some r':=by
 unfold evOp at hp ⊢
 split at hp
 ·exact hp
 ·cases h1:stepOp arR arR ti tbl al nm o.op r.tmps h with
  |none=>rw[h1]at hp;cases hp
  |some y=>rw[h1]at hp;rw[stepOp_mono hal h1];exact hp
theorem okEv_calm {w:Nat}{e:Nat×Nat}(he:e.1≤1):∀{l:List (Nat×Nat)}{i:Nat},(∀x∈l,x.1≤1)→okEv w e l i=true
 | [],i,_=>by cases i<;>rfl
 |x::l,0,_=>rfl
 |x::l,i+1,h=>by
  have hx:=h x (by simp)
  have:clsOk2 x e=true:=by
   obtain⟨x1,x2⟩:=x
   obtain⟨e1,e2⟩:=e
   simp only at hx he
   have h1:x1=0∨x1=1:=by omega
   have h2:e1=0∨e1=1:=by omega
   rcases h1 with rfl|rfl<;>rcases h2 with rfl|rfl<;>rfl
  simp only[okEv,this,Bool.true_or,Bool.true_and]
  exact okEv_calm he fun y hy=>h y (by simp[hy])
theorem labH_calm {hc:FuncId→Bool}{n0:Nat}{h:Heap}{tmps:List V}{op:Op}(hl:(lab hc tmps op).1≤1):labH hc n0 h tmps op=lab hc tmps op:=by
 unfold labH
 split
 ·rename_i f args T
  by_cases hf:hc f=true
  ·exfalso
   simp[lab,hf]at hl
  ·have hf:hc f=false:=by simpa using hf
   simp[lab,hf]
 ·rfl
theorem runCalm_draw {ti:TypeId→TI}{tbl:Tbl}{ops:Array Oper}{ws:Array Nat}{n0:Nat}:∀{l:List Oper}{i:Nat}{evs:List (Nat×Nat)} {r r':RS},(∀x∈evs,x.1≤1)→runCalm arR arR ti tbl ops n0 i l r=some r'→runDraw arR arR ti tbl ops ws n0 evs i l r=some r'
 | [],i,evs,r,r',_,h=>h
 |o::l,i,evs,r,r',he,h=>by
  simp only[runCalm]at h
  simp only[runDraw]
  cases hg:guardAt arR ops r o with
  |none=>rw[hg]at h;cases h
  |some br=>
   obtain⟨b,r2⟩:=br
   rw[hg]at h
   cases b with
   |false=>
    simp only at h ⊢
    refine runCalm_draw ?_ h
    intro x hx
    rcases List.mem_cons.1 hx with rfl|hx
    ·exact Nat.zero_le 1
    ·exact he x hx
   |true=>
    simp only at h ⊢
    by_cases hl:Nat.ble (lab tbl.hc r2.tmps o.op).1 1=true
    ·rw[if_pos hl]at h
     have hle:(lab tbl.hc r2.tmps o.op).1≤1:=Nat.le_of_ble_eq_true hl
     rw[labH_calm hle,okEv_calm hle he]
     simp only[Bool.not_true,Bool.false_eq_true,if_false]
     cases h1:evOp arR arR ti tbl (fun n=>decide (n<n0)) (n0+i) o r2 r2.heap with
     |none=>rw[h1]at h;cases h
     |some r3=>
      rw[h1]at h
      rw[evOp_mono (al':=fun n=>decide (n<n0)||(ws.getD i 0).testBit (n-n0)) (fun n hn=>by simp only[Bool.or_eq_true];exact .inl hn) h1]
      simp only at h ⊢
      refine runCalm_draw ?_ h
      intro x hx
      rcases List.mem_cons.1 hx with rfl|hx
      ·exact hle
      ·exact he x hx
    ·rw[if_neg hl]at h;cases h
theorem runAny_draw {ti:TypeId→TI}{tbl:Tbl}{ops:Array Oper}{c:Cfg}{r:RS}(h:runAny arR arR ti tbl ops c true=some r):
 runDraw arR arR ti tbl ops (waits ops) c.heap.length [] 0 ops.toList ⟨c.tmps,Go.Eng.pad tbl.hc ops c.heap,[],c.hints,c.obs⟩=some r:=by
 simp only[runAny]at h
 by_cases hc:ops.toList.all (fun o=>calmOp tbl.hc o.op)=true
 ·rw[if_pos hc]at h
  have hp:Go.Eng.pad tbl.hc ops c.heap=c.heap:=by
   unfold Go.Eng.pad
   rw[if_neg]
   intro ha
   rw[Array.any_eq_true']at ha
   obtain⟨o,ho,ha⟩:=ha
   rw[List.all_eq_true]at hc
   have:=hc o (by simpa using ho)
   rcases Bool.or_eq_true_iff.1 ha with ha|ha
   ·unfold isAlloc at ha
    split at ha
    all_goals first|(rename_i e;rw[e]at this;cases this;done)|cases ha
   ·unfold isMem at ha
    split at ha
    ·rename_i e
     rw[e]at this
     simp[calmOp,ha]at this
    ·cases ha
  rw[hp]
  exact runCalm_draw (by simp) h
 ·rw[if_neg hc]at h;exact h
theorem boolAt_sem {r r':RS}{d:Tmp}{t:Bool}(hb:boolAt arR r d=some (t,r')) (hd:DecOk r) (hq:∀q∈r'.obs,q):
 (r.tmps.getD d (.tup [])=.a (.one (.lbool t))∨r.tmps.getD d (.tup [])=.a (.one (.bool t)))∧r'.tmps=r.tmps∧r'.heap=r.heap∧DecOk r':=by
 unfold boolAt at hb
 split at hb
 ·rename_i b hx
  simp only[sie,po]at hb
  obtain⟨rfl,rfl⟩:=hb
  exact⟨.inl hx,rfl,rfl,hd⟩
 ·rename_i b hx
  split at hb
  ·rename_i h hl
   simp only[sie,po]at hb
   obtain⟨rfl,rfl⟩:=hb
   obtain⟨b',hb',rfl⟩:=hd _ _ (lookup_mem hl)
   exact⟨.inr hb',rfl,rfl,hd⟩
  ·split at hb
   ·rename_i h hs hh
    simp only[sie,po]at hb
    obtain⟨rfl,rfl⟩:=hb
    have hbh:b=h:=hq (arR.eqb b h) (by simp)
    refine⟨.inr (by rw[hx,hbh]),rfl,rfl,fun d' h' hm=>?_⟩
    simp only[List.mem_cons,po]at hm
    rcases hm with ⟨rfl,rfl⟩|hm
    ·exact⟨b,hx,hbh⟩
    ·exact hd _ _ hm
   ·cases hb
 ·cases hb
theorem guardAt_sem {ops:Array Oper} {r r':RS}{o:Oper}{t:Bool}(hb:guardAt arR ops r o=some (t,r')) (hd:DecOk r) (hq:∀q∈r'.obs,q):
 wantedA ops r.tmps o=some t∧r'.tmps=r.tmps∧r'.heap=r.heap∧DecOk r':=by
 unfold guardAt at hb
 unfold wantedA
 split at hb
 ·rename_i hg
  simp only[sie,po]at hb
  obtain⟨rfl,rfl⟩:=hb
  exact⟨rfl,rfl,rfl,hd⟩
 ·rename_i j want hg
  split at hb
  ·rename_i d hdst
   split at hb
   ·rename_i l hl
    simp only[sie,po]at hb
    obtain⟨rfl,rfl⟩:=hb
    exact⟨by simp only[hl],rfl,rfl,hd⟩
   ·split at hb
    ·rename_i b r2 hb2
     simp only[sie,po]at hb
     obtain⟨rfl,rfl⟩:=hb
     obtain⟨h1,h2,h3,h4⟩:=boolAt_sem hb2 hd hq
     refine⟨?_,h2,h3,h4⟩
     rcases h1 with h1|h1<;>simp only[h1]
    ·cases hb
  ·cases hb
theorem put_later {r:RS}(hd:DecOk r) (dst:Option Tmp) (v:V) (h:Heap) (ps:List Prop):DecOk (r.put dst v h ps):=by
 intro d t hm
 cases dst with
 |none=>exact hd d t hm
 |some e=>
  simp only[RS.put,List.mem_filter]at hm
  obtain⟨b,hb,rfl⟩:=hd d t hm.1
  have hne:e≠d:=by
   intro hed
   subst hed
   have:=hm.2
   simp at this
  refine⟨b,?_,rfl⟩
  simp only[RS.put,putV,List.getD_eq_getElem?_getD]at hb ⊢
  rw[List.getElem?_set_ne hne]
  exact hb
theorem evOp_sem {ti:TypeId→TI}{tbl:Tbl}{al:Nat→Bool}{nm:Nat}{o:Oper} {r r':RS}{h:Heap}(he:evOp arR arR ti tbl al nm o r h=some r') (hd:DecOk r) (hq:∀q∈r'.obs,q):
 ∃v h' qs,stepOp arR arR ti tbl al nm o.op r.tmps h=some (v,h',qs)∧(∀q∈qs,q)∧r'.tmps=putV r.tmps o.dst v∧r'.heap=h'∧DecOk r':=by
 unfold evOp at he
 split at he
 ·rename_i c a b hop
  split at he
  ·rename_i t r2 hb
   simp only[sie]at he
   subst he
   have hq2:∀q∈r2.obs,q:=fun q hm=>hq q (by simp[RS.put,hm])
   obtain⟨h1,h2,h3,h4⟩:=boolAt_sem hb hd hq2
   have h5:=put_later h4 o.dst (if t then opnd r.tmps a else opnd r.tmps b) h []
   refine⟨if t then opnd r.tmps a else opnd r.tmps b,h,[],?_,by simp,by simp[RS.put,h2],rfl,h5⟩
   rw[hop]
   have hc:opnd r.tmps (.tmp c)=r.tmps.getD c (.tup []):=rfl
   simp only[stepOp,planOp,plan,hc]
   rcases h1 with h1|h1<;>rw[h1]<;>simp[Cof,ok,perform]
  ·cases he
 ·split at he
  ·rename_i v h' ps hs
   simp only[sie]at he
   subst he
   exact⟨v,h',ps,hs,fun q hm=>hq q (by simp[RS.put,hm]),rfl,rfl,put_later hd _ _ _ _⟩
  ·cases he
theorem perform_len {al:Nat→Bool}{nm:Nat} {h h':Heap}{p:Plan}{v:V}{rs:List Prop}(hf:perform arR al nm h p=some (v,h',rs)):h'.length=h.length:=by
 unfold perform at hf
 (repeat' split at hf)<;>first|(cases hf;done)|(simp only[sie,po]at hf;obtain⟨-,rfl,-⟩:=hf;simp[setMany_len])
theorem stepOp_len {ti:TypeId→TI}{tbl:Tbl}{al:Nat→Bool}{nm:Nat}{op:Op}{tmps:List V} {h h':Heap}{v:V}{qs:List Prop}(hs:stepOp arR arR ti tbl al nm op tmps h=some (v,h',qs)):h'.length=h.length:=by
 unfold stepOp at hs
 split at hs
 ·cases hs
 ·split at hs
  ·cases hs
  ·rename_i hf
   simp only[sie,po]at hs
   obtain⟨-,rfl,-⟩:=hs
   exact perform_len hf
theorem HRel.pad {h:Heap}{w:World}(hH:HRel W0 m0 ρ h w) (k:Nat):HRel W0 m0 ρ (h++List.replicate k none) w:=by
 have key:∀(n:Nat) (b:Blk),(h++List.replicate k none)[n]? = some (some b)↔h[n]? = some (some b):=by
  intro n b
  by_cases hn:n<h.length
  ·rw[List.getElem?_append_left hn]
  ·rw[List.getElem?_append_right (by omega)]
   constructor
   ·intro e
    have:=List.mem_of_getElem? e
    simp at this
   ·intro e
    have:=(ges e).1
    omega
 have hown:∀r,Owned m0 ρ h r→Owned m0 ρ (h++List.replicate k none) r:=by
  rintro r ⟨n,b,o,h1,h2,h3,h4⟩
  exact⟨n,b,o,h1,(key n b).2 h2,h3,h4⟩
 exact⟨hH.os,hH.tape,hH.output,hH.size,fun r hr hn=>hH.frame r hr (fun ho=>hn (hown r ho)),fun n p hp=>(hH.dom n p hp).imp fun b hb=>(key n b).2 hb,fun n b hb hc=>hH.blk n b ((key n b).1 hb) hc,
  fun n m r o o' b b' a1 a2 a3 a4 a5 a6 a7=>hH.sep n m r o o' b b' a1 ((key n b).1 a2) a3 ((key m b').1 a4) a5 a6 a7,fun n r o hn hp=>(hH.new n r o hn hp).imp id (hown r),hH.low,fun n b hb hg=>hH.tails n b ((key n b).1 hb) hg,fun n b hb hg=>hH.deadRo n b ((key n b).1 hb) hg,
  fun n hv=>⟨(hH.vd1 n hv).1,(hH.vd1 n hv).2.imp fun b hb=>(key n b).2 hb⟩,fun n b hb hp=>hH.vd2 n b ((key n b).1 hb) hp,hH.zok,fun n b r o i hb hro hp hi=>hH.zsep n b r o i ((key n b).1 hb) hro hp hi,fun r i v h hr=>(hH.zold r i v h hr).imp id (hown r),hH.yok⟩
theorem padN_pos {hc:FuncId→Bool}{op:Op}(h:isAlloc op=true):0<padN hc op:=by
 unfold padN
 split
 ·cases h
 ·rw[if_pos h];decide
theorem runOps_wp {ti:TypeId→TI}(hti:TIok P ti){tbl:Tbl}(htbl:TblOk P tbl){ops:Array Oper}{Q:Exit→Act→World→Prop}:
 ∀(l:List Oper) (i:Nat) (r r':RS) (ρ:Ren) (a:Act) (w:World),ops.toList.drop i=l→runOps arR arR ti tbl ops l r=some r'→DecOk r→(∀q∈r'.obs,q)→m0≤r.heap.length →
  TRel ρ r.tmps a.tmps→HRel W0 m0 ρ r.heap w→a.defers=[] →
  (DecOk r'→m0≤r'.heap.length→∀ρ' a' w',Ext ρ ρ'→TRel ρ' r'.tmps a'.tmps→HRel W0 m0 ρ' r'.heap w'→a'.defers=[]→Q .normal a' w') →
  wpOps P ops Q (List.range' i (ops.size-i)) a w
 | [],i,r,r',ρ,a,w,hl,hr,hd,hq,hm,hT,hH,hdef,hQ=>by
   simp only[runOps,sie]at hr
   subst hr
   have:ops.size-i=0:=by
    have:=congrArg List.length hl
    simp at this;omega
   rw[this]
   simpa [wpOps]using hQ hd hm ρ a w (Ext.refl ρ) hT hH hdef
 |o::l,i,r,r',ρ,a,w,hl,hr,hd,hq,hm,hT,hH,hdef,hQ=>by
  have hlt:i<ops.size:=by
   have:=congrArg List.length hl
   simp at this;omega
  have hoi:ops[i]? = some o:=by
   have h1:(ops.toList.drop i)[0]? = some o:=by rw[hl];rfl
   rw[List.getElem?_drop]at h1
   simpa using h1
  have hl':ops.toList.drop (i+1)=l:=by
   rw[←List.drop_drop,hl];rfl
  have hsplit:List.range' i (ops.size-i)=i::List.range' (i+1) (ops.size-(i+1)):=by
   rw[show ops.size-i=(ops.size-(i+1))+1 by omega,List.range'_succ]
  have hdefp:∀(v:Value),(a.put o.dst v).defers=[]:=by
   intro v;cases o.dst<;>exact hdef
  rw[hsplit,wpOps_cons]
  simp only[runOps]at hr
  split at hr
  ·cases hr
  ·rename_i r2 hg
   have hq2:∀q∈r2.obs,q:=fun q h=>hq q (runOps_obs hr q (List.mem_append_right _ h))
   obtain⟨h1,h2,h3,h4⟩:=guardAt_sem hg hd hq2
   have hw:=wanted_of hT h1
   unfold wpOp
   simp only[hoi,hw,Bool.false_eq_true,if_false]
   refine runOps_wp hti htbl l (i+1) _ r' ρ _ w hl' hr (put_later h4 _ _ _ _) hq ?_ ?_ ?_ (hdefp _) hQ
   ·simp only[RS.put];rw[h3];exact hm
   ·simp only[RS.put];rw[h2];exact hT.put undef_rel
   ·simp only[RS.put];rw[h3];exact hH
  ·rename_i r2 hg
   split at hr
   ·rename_i r3 he
    have hq3:∀q∈r3.obs,q:=fun q h=>hq q (runOps_obs hr q h)
    have hq2:∀q∈r2.obs,q:=fun q h=>hq3 q (evOp_obs he q h)
    obtain⟨h1,h2,h3,h4⟩:=guardAt_sem hg hd hq2
    obtain⟨v,h',qs,e1,e2,e3,e4,e5⟩:=evOp_sem he h4 hq3
    have hw:=wanted_of hT h1
    unfold wpOp
    simp only[hoi,hw,if_true]
    refine .inl (stepOp_wp (W0:=W0) (m0:=m0) (ρ:=ρ) hti htbl (by rw[h2];exact hT) (h:=r2.heap++List.replicate (padN tbl.hc o.op) none) ?_ e1 e2 ?_ (by rw[h3];exact hm) ?_)
    ·rw[h3]
     exact hH.pad _
    ·intro hal
     have:=padN_pos (hc:=tbl.hc) hal
     rw[List.getElem?_append_right (Nat.le_refl _),Nat.sub_self,List.getElem?_replicate,if_pos this]
    ·intro ρ' v' w' hx hh hv
     refine runOps_wp hti htbl l (i+1) r3 r' ρ' _ w' hl' hr e5 hq ?_ ?_ ?_ (hdefp _) (fun d1 d2 ρ2 a2 w2 x2=>hQ d1 d2 ρ2 a2 w2 (hx.trans x2))
     ·have:=stepOp_len e1
      rw[e4,this,h3];simp;omega
     ·rw[e3,h2];exact(hT.ext hx).put hv
     ·rw[e4];exact hh
   ·cases hr
end
def commB (hc:FuncId→Bool) (ops:Array Oper) (j i:Nat):Bool:=
 match ops[j]?,ops[i]? with
 |some oj,some oi=>oj.apart ops oi
 |_,_=>false
def drawOkW (hc:FuncId→Bool) (ops:Array Oper) (ws:Array Nat):Bool:=
 (List.range ops.size).all fun i=>match ops[i]? with
   |some oi=>oi.after.all (fun e=>!Region.binds .any e||decide (e.on<i)) &&
    (List.range i).all (fun j=>!(ws.getD j 0).testBit i&&(if(ws.getD i 0).testBit j then oi.after.any (fun e=>Region.binds .any e&&(e.on == j||(ws.getD e.on 0).testBit j))else commB hc ops j i))
   |none=>false
def drawOk (hc:FuncId→Bool) (ops:Array Oper):Bool:=drawOkW hc ops (waits ops)
section
variable {P:Program}{W0:World}{m0:Nat}{ρ:Ren}
def alOf (ws:Array Nat) (n0 i:Nat):Nat→Bool:=fun n=>decide (n<n0)||(ws.getD i 0).testBit (n-n0)
def Eff (ti:TypeId→TI) (tbl:Tbl) (ops:Array Oper) (ws:Array Nat) (n0:Nat) (e:Nat×Nat) (i:Nat) (o:Oper) (s s':St):Prop:=
 (wantedA ops s.tmps o=some true∧e=labH tbl.hc n0 s.heap s.tmps o.op∧∃v h' qs,stepOp arR arR ti tbl (alOf ws n0 i) (n0+i) o.op s.tmps s.heap=some (v,h',qs)∧(∀q∈qs,q)∧s'=⟨putV s.tmps o.dst v,h'⟩) ∨
 (wantedA ops s.tmps o=some false∧e=(0,0)∧s'=⟨putV s.tmps o.dst (.tup []),s.heap⟩)
def Chain (ti:TypeId→TI) (tbl:Tbl) (ops:Array Oper) (ws:Array Nat) (n0:Nat) (L:Nat→Nat×Nat):List Nat→St→St→Prop
 | [],s,s'=>s=s'
 |i::l,s,s'=>∃o s1,ops[i]? = some o∧Eff ti tbl ops ws n0 (L i) i o s s1∧Chain ti tbl ops ws n0 L l s1 s'
theorem getD_putV {tmps:List V}{dst:Option Tmp}{v:V}{t:Tmp}(h:∀d,dst=some d→d≠t):(putV tmps dst v).getD t (.tup [])=tmps.getD t (.tup []):=by
 cases dst with
 |none=>rfl
 |some d=>
  simp only[putV,List.getD_eq_getElem?_getD]
  rw[List.getElem?_set_ne (h d rfl)]
theorem opnd_putV {tmps:List V}{dst:Option Tmp}{v:V}{x:Operand}(h:∀d,dst=some d→x≠.tmp d):opnd (putV tmps dst v) x=opnd tmps x:=by
 cases x with
 |tmp t=>
  simp only[opnd]
  exact getD_putV (fun d hd e=>h d hd (by rw[e]))
 |_=>rfl
theorem mapM_congr' {α β:Type}{f g:α→Option β}:∀{l:List α},(∀x∈l,f x=g x)→l.mapM f=l.mapM g
 | [],_=>rfl
 |x::l,h=>by
  simp only[List.mapM_cons,h x (by simp),mapM_congr' (l:=l) (fun y hy=>h y (by simp[hy]))]
theorem argsOf_congr {ev ev':Operand→V}:∀{l:List Operand},(∀x∈l,ev x=ev' x)→argsOf ev l=argsOf ev' l
 | [],_=>rfl
 |x::l,h=>by simp only[argsOf,h x (by simp),argsOf_congr (l:=l) (fun y hy=>h y (by simp[hy]))]
theorem hiOf_congr {ev ev':Operand→V}{hi:Option Operand}{a b:N}(h:∀x∈hi.toList,ev x=ev' x):hiOf arR ev hi a b=hiOf arR ev' hi a b:=by
 cases hi with
 |none=>rfl
 |some x=>simp only[hiOf,h x (by simp)]
theorem loOf_congr {ev ev':Operand→V}{lo:Option Operand}{a:N}(h:∀x∈lo.toList,ev x=ev' x):loOf arR ev lo a=loOf arR ev' lo a:=by
 cases lo with
 |none=>rfl
 |some x=>simp only[loOf,h x (by simp)]
theorem planSlice_congr {ti:TypeId→TI} {ev ev':Operand→V}{t:TypeId}{x:Operand}{lo hi:Option Operand}(h1:ev x=ev' x) (h2:∀x∈lo.toList,ev x=ev' x) (h3:∀x∈hi.toList,ev x=ev' x):planSlice arR ti ev t x lo hi=planSlice arR ti ev' t x lo hi:=by
 simp only[planSlice,h1,hiOf_congr h3,loOf_congr h2]
theorem planApp_congr {ti:TypeId→TI} {ev ev':Operand→V} {t t':TypeId}{x y:Operand}(h1:ev x=ev' x) (h2:ev y=ev' y):planApp arR ti ev t t' x y=planApp arR ti ev' t t' x y:=by
 simp only[planApp,h1,h2]
theorem partsD_congr {s:Sh} {ev ev':Operand→V}:∀{l:List (Nat×Operand)}{i:Nat},(∀p∈l,ev p.2=ev' p.2)→partsD arR s ev i l=partsD arR s ev' i l
 | [],_,_=>rfl
 |(j,x)::l,i,h=>by
  simp only[partsD,h (j,x) (by simp),partsD_congr (l:=l) (i:=i+1) (fun p hp=>h p (by simp[hp]))]
theorem planCall_congr {ti:TypeId→TI} {ev ev':Operand→V}{c:Call}(h:∀x∈c.args.toList,ev x=ev' x):planCall arR arR ti ev c=planCall arR arR ti ev' c:=by
 unfold planCall
 split
 ·rename_i x t _ hx _
  simp only[planLen,h x (by rw[hx];simp)]
 ·rename_i x y _ hx
  rw[h x (by rw[hx];simp),h y (by rw[hx];simp)]
 ·rename_i x y _ hx
  rw[h x (by rw[hx];simp),h y (by rw[hx];simp)]
 ·rename_i x y t t' _ hx _
  rw[planApp_congr (h x (by rw[hx];simp)) (h y (by rw[hx];simp))]
 ·rename_i x y t t' _ hx _
  simp only[planCopy,h x (by rw[hx];simp),h y (by rw[hx];simp)]
 ·rfl
theorem planCut0_congr {ti:TypeId→TI} {ev ev':Operand→V}{t:TypeId}{x m:Operand}{lo hi:Option Operand}(hx:ev x=ev' x) (hm:ev m=ev' m) (hh:∀y∈hi.toList,ev y=ev' y):planCut0 ti ev t x lo hi m=planCut0 ti ev' t x lo hi m:=by
 cases hi with
 |none=>cases lo<;>simp only[planCut0]
 |some y=>
  have hy:=hh y (by simp)
  cases lo with
  |some l=>simp only[planCut0]
  |none=>
   simp only[planCut0,hx,hm]
   cases (ti t).td<;>try rfl
   cases Cof (ev' x)with
   |none=>rfl
   |some c=>cases c<;>first|rfl|simp only[hy]
theorem plan_congr {ti:TypeId→TI} {ev ev':Operand→V}{op:Op}(h:∀x∈op.operands.toList,ev x=ev' x):plan arR arR ti ev op=plan arR arR ti ev' op:=by
 cases op
 case build t parts=>
  have hp:∀p∈parts.toList,ev p.2=ev' p.2:=fun p hp=>h p.2 (by simp only[Op.operands];simp;exact⟨p.1,by simpa using hp⟩)
  have e1:(parts.toList.map fun p=>(p.1,ev p.2))=(parts.toList.map fun p=>(p.1,ev' p.2)):=List.map_congr_left (fun p hq=>by rw[hp p hq])
  have e2:∀fs,parts.toList.mapM (fun p=>partOf ti fs p.1 (ev p.2))=parts.toList.mapM (fun p=>partOf ti fs p.1 (ev' p.2)):=fun fs=>mapM_congr' (fun p hq=>by rw[hp p hq])
  have e3:∀fs,parts.toList.mapM (fun p=>partOfP arR ti fs p.1 (ev p.2))=parts.toList.mapM (fun p=>partOfP arR ti fs p.1 (ev' p.2)):=fun fs=>mapM_congr' (fun p hq=>by rw[hp p hq])
  have e4:parts.toList.mapM (fun p=>partOf1 p.1 (ev p.2))=parts.toList.mapM (fun p=>partOf1 p.1 (ev' p.2)):=mapM_congr' (fun p hq=>by rw[hp p hq])
  simp only[plan,e1,e2,e3,e4]
 case buildSlice t n parts=>
  have hp:∀p∈parts.toList,ev p.2=ev' p.2:=fun p hp=>h p.2 (by simp only[Op.operands];simp;exact⟨p.1,by simpa using hp⟩)
  have e1:∀s,partsD arR s ev 0 parts.toList=partsD arR s ev' 0 parts.toList:=fun s=>partsD_congr hp
  simp only[plan,e1]
 case slice t x lo hi mx=>
  simp only[plan]
  cases mx with
  |none=>exact planSlice_congr (h x (by simp[Op.operands])) (fun y hy=>h y (by simp[Op.operands]at hy ⊢;exact .inr (.inl hy))) (fun y hy=>h y (by simp[Op.operands]at hy ⊢;exact .inr (.inr hy)))
  |some m=>
   exact planCut0_congr (h x (by simp[Op.operands])) (h m (by simp[Op.operands])) (fun y hy=>h y (by simp[Op.operands]at hy ⊢;simp[hy]))
 case makeSlice t l c=>
  have hl:=h l (by simp[Op.operands])
  have hc:=h c (by simp[Op.operands])
  simp only[plan,planMake,hl,hc]
 case call c=>exact planCall_congr (fun x hx=>h x (by simp only[Op.operands,Call.operands];simp;exact .inr (by simpa using hx)))
 all_goals first
  |rfl
  |(simp only[Op.operands,Call.operands]at h;simp at h;simp only[plan];first|rw[h]|rw[h.1,h.2]|rw[h.1,h.2.1,h.2.2]|(simp only[h];done)|rfl)
end
section
variable {P:Program}{W0:World}{m0:Nat}{ρ:Ren}
theorem planOp_congr {ti:TypeId→TI}{tbl:Tbl} {ev ev':Operand→V}{op:Op}(h:∀x∈op.operands.toList,ev x=ev' x):planOp arR arR ti tbl ev op=planOp arR arR ti tbl ev' op:=by
 unfold planOp
 split
 ·rename_i f args T
  rw[argsOf_congr (ev':=ev') (fun x hx=>h x (by simp only[Op.operands,Call.operands];simp;exact .inr (by simpa using hx)))]
 ·exact plan_congr h
theorem looks_op {ops:Array Oper}{o:Oper}{t:Tmp}(h:t∉o.looksAt ops):∀x∈o.op.operands.toList,x≠.tmp t:=by
 intro x hx e
 subst e
 exact h (List.mem_append_left _ (List.mem_filterMap.2 ⟨.tmp t,hx,rfl⟩))
theorem stepOp_put {ti:TypeId→TI}{tbl:Tbl}{ops:Array Oper}{al:Nat→Bool}{nm:Nat}{o:Oper}{tmps:List V}{h:Heap}{dst:Option Tmp}{v:V}(hd:∀d,dst=some d→d∉o.looksAt ops):
 stepOp arR arR ti tbl al nm o.op (putV tmps dst v) h=stepOp arR arR ti tbl al nm o.op tmps h:=by
 unfold stepOp
 rw[planOp_congr (ev':=opnd tmps) (fun x hx=>opnd_putV (fun d e=>looks_op (hd d e) x hx))]
theorem wantedA_put {ops:Array Oper}{o:Oper}{tmps:List V}{dst:Option Tmp}{v:V}(hd:∀d,dst=some d→d∉o.looksAt ops):wantedA ops (putV tmps dst v) o=wantedA ops tmps o:=by
 unfold wantedA
 cases hg:o.guard with
 |none=>rfl
 |some g=>
  obtain⟨j,want⟩:=g
  simp only
  cases ht:(ops[j]?).bind (·.dst)with
  |none=>rfl
  |some t=>
   simp only
   rw[getD_putV]
   intro d e hdt
   subst hdt
   refine hd d e (List.mem_append_right _ ?_)
   simp[hg,ht]
theorem putV_comm {tmps:List V}{a b:Option Tmp}{u v:V}(h:∀d,a=some d→b≠some d):putV (putV tmps a u) b v=putV (putV tmps b v) a u:=by
 cases a with
 |none=>rfl
 |some d=>
  cases b with
  |none=>rfl
  |some e=>
   have:d≠e:=fun x=>h d rfl (by rw[x])
   simp only[putV]
   exact List.set_comm _ _ this
def plab:Plan→Nat×Nat
 |.callh ..=>(4,0)
 |.val _=>(0,0)
 |.load b ..=>(1,b)
 |.store b ..=>(2,b)
 |.alloc ..=>(3,0)
 |.text b ..=>(1,b)
 |.froze ..=>(4,0)
 |.copy ..=>(4,0)
 |.fresh none _ _=>(3,0)
 |.fresh (some t) _ _=>(5,t)
theorem lab_call {hc:FuncId→Bool}{ti:TypeId→TI}{tmps:List V}{p:Plan}{qs:List Prop}{c:Call}(h:kindOk ti (opnd tmps) p qs (.call c)) (hp:plan arR arR ti (opnd tmps) (.call c)=some (p,qs)) (hne:∀f args T,Op.call c≠.call {callee:=.value (.func f),args:=args,argTypes:=T}):plab p=lab hc tmps (.call c):=by
 rcases h with ⟨v,rfl⟩|⟨x,y,t,t',rfl,hkind⟩|⟨x,y,t,t',b,off,n,s,rfl,rfl⟩
 rotate_left 2
 ·rfl
 ·obtain⟨callee,args,T⟩:=c
  unfold lab
  split
  all_goals first
   |rfl
   |(rename_i e;simp only[Op.call.injEq,Call.mk.injEq]at e;obtain⟨rfl,-,-⟩:=e;exact absurd rfl (hne _ _ _))
   |(rename_i e;cases e;done)
   |(rename_i args' T' e
     simp only[Op.call.injEq,Call.mk.injEq]at e
     obtain⟨rfl,rfl,rfl⟩:=e
     exfalso
     simp only[plan,planCall]at hp
     split at hp
     ·rename_i h1 _ _;cases h1
     ·rename_i h1 _;cases h1
     ·rename_i h1 _;cases h1
     ·unfold planApp at hp
      (repeat' split at hp)<;>simp at hp
     ·unfold planCopy at hp
      (repeat' split at hp)<;>simp at hp
     ·cases hp)
 ·replace hp:planApp arR ti (opnd tmps) t t' x y=some (p,qs):=hp
  obtain⟨e,s,c,d,ys,-,-,-,-,-,-,k7,-,k9,hcase⟩:=planApp_inv hp
  show plab _=(match (#[x,y]:Array Operand).toList with
   |x::_=>match Cof (opnd tmps x)with
    |some (.dat _ _ (some t))=>(5,t)
    |some (.sl ..)=>(4,0)
    |_=>(3,0)
   | []=>(3,0))
  simp only[k7]
  rcases hcase with ⟨xs,tok,k9,rfl,rfl⟩|⟨b,len,cap,k,rfl,rfl,rfl,rfl⟩
  ·unfold headD at k9
   split at k9
   ·split at k9
    ·simp only[sie,po]at k9
     obtain⟨-,rfl⟩:=k9
     rfl
    ·cases k9
   ·simp only[sie,po]at k9
    obtain⟨-,rfl⟩:=k9
    rfl
   ·cases k9
  ·rfl
theorem lab_conv {hc:FuncId→Bool}{ti:TypeId→TI}{tmps:List V}{p:Plan}{qs:List Prop}{src dst:TypeId}{x:Operand}(hp:plan arR arR ti (opnd tmps) (.convert src dst x)=some (p,qs)) (h:kindOk ti (opnd tmps) p qs (.convert src dst x)):plab p=lab hc tmps (.convert src dst x):=by
 rcases h with ⟨v,rfl⟩|⟨b,off,len,cap,h1,rfl⟩
 ·show(0,0)=(match Cof (opnd tmps x)with
   |some (.sl b _ _ _)=>(1,b)
   |_=>(0,0))
  split
  ·rename_i b off len cap hcx
   exfalso
   simp only[plan]at hp
   split at hp
   ·cases hp
   ·rw[hcx]at hp
    split at hp<;>first|(cases hp;done)|skip
    all_goals first|(rename_i e1 _;cases e1;done)|skip
    all_goals((repeat' split at hp)<;>cases hp)
  ·rfl
 ·simp only[plab,lab,h1]
theorem lab_plain {hc:FuncId→Bool}{ti:TypeId→TI}{tmps:List V}{p:Plan}{qs:List Prop}{op:Op}(hp:plan arR arR ti (opnd tmps) op=some (p,qs)) (h:kindOk ti (opnd tmps) p qs op) (hne:∀f args T,op≠.call {callee:=.value (.func f),args:=args,argTypes:=T}):plab p=lab hc tmps op:=by
 cases op<;>simp only[kindOk]at h
 case load=>
  rcases h with ⟨b,off,hc,_,rfl⟩|⟨s,d,v,hc,rfl⟩
  ·simp only[plab,lab,hc]
  ·simp only[plab,lab,hc]
 case store=>obtain⟨b,off,v,hc,_,_,rfl⟩:=h;simp only[plab,lab,hc]
 case alloc=>obtain⟨_,_,_,_,rfl⟩:=h;rfl
 case box=>obtain⟨_,_,_,rfl⟩:=h;rfl
 case buildSlice=>obtain⟨_,_,rfl⟩:=h;rfl
 case call c=>exact lab_call h hp hne
 case makeSlice=>obtain⟨_,_,rfl⟩:=h;rfl
 case slice t x lo hi mx=>
  rcases h with ⟨v,rfl⟩|⟨hmx,s,rfl⟩
  ·cases mx with
   |none=>rfl
   |some m=>
    exfalso
    simp only[plan,planCut0]at hp
    (repeat' split at hp)<;>cases hp
  ·cases mx with
   |none=>cases hmx
   |some m=>rfl
 case convert src dst x=>exact lab_conv hp h
 all_goals(obtain⟨v,rfl⟩:=h;rfl)
theorem planOp_lab {ti:TypeId→TI}{tbl:Tbl}{tmps:List V}{op:Op}{p:Plan}{qs:List Prop}(h:planOp arR arR ti tbl (opnd tmps) op=some (p,qs)):plab p=lab tbl.hc tmps op:=by
 unfold planOp at h
 split at h
 ·rename_i f args T
  split at h
  ·split at h
   ·rename_i hh
    split at h
    ·simp only[sie,po]at h
     rw[←h.1]
     simp[plab,lab,hh]
    ·cases h
   ·rename_i hh
    have hh:tbl.hc f=false:=by simpa using hh
    (repeat' split at h)<;>first|(cases h;done)|(simp only[sie,po]at h;rw[←h.1];simp[plab,lab,hh])
  ·cases h
 ·rename_i hne
  exact lab_plain h (plan_kind h) hne
theorem lab_put {hc:FuncId→Bool}{ops:Array Oper}{o:Oper}{tmps:List V}{dst:Option Tmp}{v:V}(hd:∀d,dst=some d→d∉o.looksAt ops):lab hc (putV tmps dst v) o.op=lab hc tmps o.op:=by
 have key:∀x∈o.op.operands.toList,opnd (putV tmps dst v) x=opnd tmps x:=fun x hx=>opnd_putV (fun d e=>looks_op (hd d e) x hx)
 generalize o.op=op at key
 cases op
 case load t x=>simp only[lab,key x (by simp[Op.operands])]
 case store t x y=>simp only[lab,key x (by simp[Op.operands])]
 case convert a b x=>simp only[lab,key x (by simp[Op.operands])]
 case slice t x lo hi mx=>cases mx<;>rfl
 case call c=>
  obtain⟨callee,args,T⟩:=c
  unfold lab
  split
  case h_10=>
   rename_i args T e
   cases e
   cases ha:args.toList with
   |nil=>rfl
   |cons x l=>
    have hx:x∈args:=by
     have:x∈args.toList:=by rw[ha];simp
     simpa using this
    have:=key x (by simp only[Op.operands,Call.operands];simp;exact hx)
    simp only[this]
  all_goals first|rfl|(rename_i e;cases e;done)
 all_goals rfl
theorem labH_put {hc:FuncId→Bool}{n0:Nat}{h:Heap}{ops:Array Oper}{o:Oper}{tmps:List V}{dst:Option Tmp}{v:V}(hd:∀d,dst=some d→d∉o.looksAt ops):labH hc n0 h (putV tmps dst v) o.op=labH hc n0 h tmps o.op:=by
 have key:∀x∈o.op.operands.toList,opnd (putV tmps dst v) x=opnd tmps x:=fun x hx=>opnd_putV (fun d e=>looks_op (hd d e) x hx)
 have hl:=lab_put (hc:=hc) (ops:=ops) (o:=o) (tmps:=tmps) (v:=v) hd
 generalize o.op=op at key hl
 unfold labH
 split
 ·rename_i f args T
  rw[argsOf_congr (ev':=opnd tmps) (fun x hx=>key x (by simp only[Op.operands,Call.operands];simp;exact .inr (by simpa using hx)))]
 ·exact hl
def plabH (n0:Nat) (h:Heap):Plan→Nat×Nat
 |.callh _ args=>(6,okMask n0 (reachA h args))
 |p=>plab p
theorem planOp_labH {n0:Nat}{h:Heap}{ti:TypeId→TI}{tbl:Tbl}{tmps:List V}{op:Op}{p:Plan}{qs:List Prop}(hp:planOp arR arR ti tbl (opnd tmps) op=some (p,qs)):plabH n0 h p=labH tbl.hc n0 h tmps op:=by
 have hl:=planOp_lab hp
 unfold labH
 split
 ·rename_i f args T
  simp only[planOp]at hp
  split at hp
  ·rename_i l hargs
   split at hp
   ·rename_i hh
    split at hp
    ·simp only[sie,po]at hp
     obtain⟨rfl,rfl⟩:=hp
     simp only[plabH,hh,hargs,if_true]
    ·cases hp
   ·rename_i hh
    have hh:tbl.hc f=false:=by simpa using hh
    simp only[lab,hh]at hl
    rw[hh]
    cases p with
    |callh=>simp[plab]at hl
    |_=>exact hl
  ·cases hp
 ·rename_i hne
  unfold planOp at hp
  split at hp
  ·rename_i f args T
   exact absurd rfl (hne f args T)
  ·cases p with
   |callh=>
    exfalso
    have hk:=plan_kind hp
    cases op<;>simp[kindOk]at hk
   |_=>exact hl
theorem okMask_bit {n0:Nat}{l:List Nat}{b:Nat}(h:(okMask n0 l).testBit b=true):b<n0∧b∉l:=by
 unfold okMask at h
 induction n0 with
 |zero=>simp at h
 |succ n ih=>
  rw[List.range_succ,List.foldl_append]at h
  simp only[List.foldl_cons,List.foldl_nil]at h
  split at h
  ·obtain⟨h1,h2⟩:=ih h
   exact⟨by omega,h2⟩
  ·rename_i hc
   rw[Nat.testBit_or,Bool.or_eq_true,Nat.testBit_two_pow,decide_eq_true_eq]at h
   rcases h with h|rfl
   ·obtain⟨h1,h2⟩:=ih h
    exact⟨by omega,h2⟩
   ·refine⟨by omega,fun hm=>hc ?_⟩
    simpa using hm
theorem addAll_sub:∀{xs ns:List Nat}{n:Nat},n∈ns→n∈addAll ns xs
 | [],ns,n,h=>h
 |x::xs,ns,n,h=>by
  simp only[addAll]
  split
  ·exact addAll_sub h
  ·exact addAll_sub (by simp[h])
theorem clo_sub {h:Heap}:∀{k:Nat}{ns:List Nat}{n:Nat},n∈ns→n∈clo h k ns
 |0,ns,n,hn=>hn
 |k+1,ns,n,hn=>by simp only[clo];exact clo_sub (addAll_sub hn)
theorem clo_congr {h h':Heap}:∀{k:Nat}{ns:List Nat},(∀n∈clo h k ns,h'[n]? = h[n]?)→clo h' k ns=clo h k ns
 |0,ns,_=>rfl
 |k+1,ns,hall=>by
  simp only[clo]at hall ⊢
  have e:ns.flatMap (namesAt h')=ns.flatMap (namesAt h):=by
   have:∀n∈ns,namesAt h' n=namesAt h n:=fun n hn=>by
    unfold namesAt
    rw[hall n (clo_sub (addAll_sub hn))]
   clear hall
   induction ns with
   |nil=>rfl
   |cons a l ih=>simp only[List.flatMap_cons];rw[this a (by simp),ih (fun n hn=>this n (by simp[hn]))]
  rw[e]
  exact clo_congr hall
theorem setMany_set {nm:Nat}{B:Option Blk}:∀{ns:List Nat}{bs:List Blk}{h:Heap},nm∉ns→setMany (h.set nm B) ns bs=(setMany h ns bs).set nm B
 | [],bs,h,_=>by cases bs<;>rfl
 |n::ns,[],h,_=>rfl
 |n::ns,b::bs,h,hn=>by
  simp only[setMany]
  rw[List.set_comm _ _ (fun e=>hn (by simp[e])),setMany_set (fun e=>hn (by simp[e]))]
theorem mapM_congr2 {α β:Type}{f g:α→Option β}{l:List α}(h:∀x∈l,f x=g x):l.mapM f=l.mapM g:=mapM_congr' h
theorem performI_inv {nm:Nat}{h:Heap}{ns:List Nat}{s:HSpec}{args:List A}{e:Nat}{v:V} {ns':List Nat}{bs:List Blk}{ps:List Prop}(hp:performI nm h ns s args=some (e,v,ns',bs,ps)):
 ns'=ns++List.range' nm e∧(∀n∈ns,∃b,h[n]? = some (some b)):=by
 unfold performI at hp
 split at hp
 ·rename_i bb hbs
  refine⟨?_,fun n hn=>?_⟩
  ·(repeat' split at hp)<;>first|(cases hp;done)|(simp only[sie,po]at hp;obtain⟨rfl,-,rfl,-⟩:=hp;rfl)
  ·obtain⟨i,hi,e⟩:=List.getElem_of_mem hn
   obtain⟨b,hb,-⟩:=mapM_some_get hbs i n (by rw[←e];exact geg hi)
   exact⟨b,blkAt_eq hb⟩
 ·cases hp
theorem freeN_iff {al:Nat→Bool}{h:Heap}{nm e:Nat}:freeN al h nm e=true↔∀k,k<e→h[nm+k]? = some none∧(k=0∨al (nm+k)=true):=by
 unfold freeN
 rw[List.all_eq_true]
 have fr:∀n,isFree h n=true↔h[n]? = some none:=fun n=>by
  unfold isFree
  split
  ·rename_i e;simp[e]
  ·rename_i hne
   constructor
   ·intro x;cases x
   ·intro x;exact absurd x hne
 constructor
 ·intro hx k hk
  have:=hx k (List.mem_range.2 hk)
  simp only[bat,Bool.or_eq_true,fr]at this
  exact⟨this.1,this.2.imp (fun x=>Nat.eq_of_beq_eq_true x) id⟩
 ·intro hx k hk
  obtain⟨a,b⟩:=hx k (List.mem_range.1 hk)
  simp only[bat,Bool.or_eq_true,fr]
  exact⟨a,b.imp (fun x=>by subst x;rfl) id⟩
theorem perform_callh {al:Nat→Bool}{nm:Nat}{h h1:Heap}{s:HSpec}{args:List A}{v:V}{rs:List Prop}(hf:perform arR al nm h (.callh s args)=some (v,h1,rs)):
 (∀n∈reachA h args,al n=true)∧(∀n∈reach h args,∃b,h[n]? = some (some b))∧∃e bs,(∀k,k<e→h[nm+k]? = some none∧(k=0∨al (nm+k)=true))∧h1=setMany h (reach h args++List.range' nm e) bs ∧
   ∀h',(∀n∈reachA h args,h'[n]? = h[n]?)→(∀k,k<e→h'[nm+k]? = h[nm+k]?)→reachA h' args=reachA h args∧perform arR al nm h' (.callh s args)=some (v,setMany h' (reach h args++List.range' nm e) bs,rs):=by
 obtain⟨k1,k2,e,ns,bs,k3,k4,rfl⟩:=callh_inv hf
 obtain⟨rfl,k5⟩:=performI_inv k3
 refine⟨fun n hn=>List.all_eq_true.1 k1 n hn,k5,e,bs,freeN_iff.1 k4,rfl,fun h' hag hfr=>?_⟩
 have hA:reachA h' args=reachA h args:=clo_congr hag
 have hr:reach h' args=reach h args:=by
  unfold reach
  rw[hA]
  refine List.filter_congr fun n hn=>?_
  unfold isLive
  rw[hag n hn]
 refine⟨hA,?_⟩
 have hI:performI nm h' (reach h args) s args=performI nm h (reach h args) s args:=by
  unfold performI
  rw[mapM_congr2 (g:=blkAt h) (fun n hn=>by unfold blkAt;rw[hag n (List.mem_filter.1 hn).1])]
 have:=callh_of (al:=al) (nm:=nm) (h:=h') (s:=s) (args:=args) (by rw[hA];exact k1) (by rw[hr];exact k2) (by rw[hr,hI];exact k3) (by
  rw[freeN_iff]at k4 ⊢
  intro k hk
  rw[hfr k hk]
  exact k4 k hk)
 exact this
theorem perform_load {al:Nat→Bool}{nm:Nat}{h h1:Heap}{b:Nat}{off:N}{s:Nat}{ag:Bool}{v:V}{rs:List Prop}(hf:perform arR al nm h (.load b off s ag)=some (v,h1,rs)):
 al b=true∧h1=h∧∀h',h'[b]? = h[b]?→perform arR al nm h' (.load b off s ag)=some (v,h',rs):=by
 unfold perform at hf
 simp only at hf
 split at hf
 ·rename_i hal
  split at hf
  ·rename_i blk hb
   split at hf
   ·rename_i ha
    split at hf
    ·rename_i g ps hc
     simp only[sie,po]at hf
     obtain⟨rfl,rfl,rfl⟩:=hf
     exact⟨hal,rfl,fun h' e=>by simp[perform,hal,e,hb,ha,hc]⟩
    ·cases hf
   ·rename_i ha
    split at hf
    ·rename_i c ps hc
     simp only[sie,po]at hf
     obtain⟨rfl,rfl,rfl⟩:=hf
     exact⟨hal,rfl,fun h' e=>by simp[perform,hal,e,hb,ha,hc]⟩
    ·cases hf
  ·cases hf
 ·cases hf
theorem perform_text {al:Nat→Bool}{nm:Nat}{h h1:Heap}{b:Nat}{off len:N}{v:V}{rs:List Prop}(hf:perform arR al nm h (.text b off len)=some (v,h1,rs)):
 al b=true∧h1=h∧∀h',h'[b]? = h[b]?→perform arR al nm h' (.text b off len)=some (v,h',rs):=by
 simp only[perform]at hf
 split at hf
 ·rename_i hal
  split at hf
  ·rename_i ro M f hb
   split at hf
   ·rename_i ps hps
    simp only[sie,po]at hf
    obtain⟨rfl,rfl,rfl⟩:=hf
    refine⟨hal,rfl,fun h' e=>?_⟩
    simp only[perform]
    rw[if_pos hal,e,hb]
    simp only[hps]
   ·cases hf
  ·rename_i ro qs hb
   split at hf
   ·split at hf
    ·rename_i m f ps hcut
     split at hf
     ·rename_i hmn
      simp only[sie,po]at hf
      obtain⟨rfl,rfl,rfl⟩:=hf
      refine⟨hal,rfl,fun h' e=>?_⟩
      simp only[perform]
      rw[if_pos hal,e,hb]
      simp only[hcut,hmn,if_true]
     ·cases hf
    ·cases hf
   ·cases hf
  ·cases hf
 ·cases hf
theorem perform_copy {al:Nat→Bool}{nm:Nat}{h h1:Heap}{b:Nat}{off:N}{n:Nat}{s:ByteArray}{v:V}{rs:List Prop}(hf:perform arR al nm h (.copy b off n s)=some (v,h1,rs)):
 al b=true∧∃B,h1=h.set b B∧∀h',h'[b]? = h[b]?→perform arR al nm h' (.copy b off n s)=some (v,h'.set b B,rs):=by
 simp only[perform]at hf
 split at hf
 ·rename_i hal
  split at hf
  ·rename_i blk hb
   split at hf
   ·cases hf
   ·rename_i hro
    split at hf
    ·rename_i m f ps hcut
     split at hf
     ·rename_i hmn
      split at hf
      ·rename_i g qs hput
       simp only[sie,po]at hf
       obtain⟨rfl,rfl,rfl⟩:=hf
       refine⟨hal,_,rfl,fun h' e=>?_⟩
       simp only[perform]
       rw[if_pos hal,e,hb]
       simp only[hro,hcut,hmn,hput,if_true]
       rfl
      ·cases hf
     ·cases hf
    ·cases hf
  ·cases hf
 ·cases hf
theorem perform_froze {al:Nat→Bool}{nm:Nat}{h h1:Heap}{b:Nat}{k:IntKind}{len cap:N}{ys:List D}{v:V}{rs:List Prop}(hf:perform arR al nm h (.froze b k len cap ys)=some (v,h1,rs)):
 al b=true∧(∃x,h[b]? = some (some x))∧h1=(h.set b (some ⟨true,.dead⟩)).set nm (some ⟨false,.tail⟩)∧∀h',h'[b]? = h[b]?→perform arR al nm h' (.froze b k len cap ys)=some (v,(h'.set b (some ⟨true,.dead⟩)).set nm (some ⟨false,.tail⟩),rs):=by
 simp only[perform]at hf
 split at hf
 ·rename_i hal
  split at hf
  ·rename_i k' M f hb
   split at hf
   ·rename_i hkk
    simp only[sie,po]at hf
    obtain⟨rfl,rfl,rfl⟩:=hf
    refine⟨hal,⟨_,hb⟩,rfl,fun h' e=>?_⟩
    simp only[perform]
    rw[if_pos hal,e,hb]
    simp only[hkk,if_true]
   ·cases hf
  ·cases hf
 ·cases hf
theorem perform_store {al:Nat→Bool}{nm:Nat}{h h1:Heap}{b:Nat}{off:N}{x:A}{s:Nat}{v:V}{rs:List Prop}(hf:perform arR al nm h (.store b off x s)=some (v,h1,rs)):
 al b=true∧∃B,h1=h.set b B∧∀h',h'[b]? = h[b]?→perform arR al nm h' (.store b off x s)=some (v,h'.set b B,rs):=by
 unfold perform at hf
 simp only at hf
 split at hf
 ·rename_i hal
  split at hf
  ·rename_i blk hb
   split at hf
   ·cases hf
   ·rename_i hro
    split at hf
    ·rename_i c
     split at hf
     ·rename_i hs
      split at hf
      ·rename_i g ps hc
       simp only[sie,po]at hf
       obtain⟨rfl,rfl,rfl⟩:=hf
       exact⟨hal,_,rfl,fun h' e=>by simp[perform,hal,e,hb,hro,hs,hc]⟩
      ·cases hf
     ·cases hf
    ·rename_i g0
     split at hf
     ·rename_i n hn
      split at hf
      ·rename_i hs
       split at hf
       ·rename_i g ps hc
        simp only[sie,po]at hf
        obtain⟨rfl,rfl,rfl⟩:=hf
        exact⟨hal,_,rfl,fun h' e=>by simp[perform,hal,e,hb,hro,hn,hs,hc]⟩
       ·cases hf
      ·cases hf
     ·cases hf
  ·cases hf
 ·cases hf
theorem perform_tailed {al:Nat→Bool}{nm:Nat}{h h1:Heap}{b:Nat}{s:Sh}{xs:List D}{v:V}{rs:List Prop}(hf:perform arR al nm h (.fresh (some b) s xs)=some (v,h1,rs)):
 al b=true∧h[b]? = some (some ⟨false,.tail⟩)∧h1=(h.set b (some ⟨true,.dead⟩)).set nm (some ⟨false,.tail⟩)∧∀h',h'[b]? = h[b]?→perform arR al nm h' (.fresh (some b) s xs)=some (v,(h'.set b (some ⟨true,.dead⟩)).set nm (some ⟨false,.tail⟩),rs):=by
 simp only[perform]at hf
 split at hf
 ·rename_i hal
  split at hf
  ·rename_i hb
   simp only[sie,po]at hf
   obtain⟨rfl,rfl,rfl⟩:=hf
   refine⟨hal,hb,rfl,fun h' e=>?_⟩
   simp only[perform]
   rw[if_pos hal,e,hb]
  ·cases hf
 ·cases hf
theorem setMany_get {n:Nat}:∀{ns:List Nat}{bs:List Blk}{h:Heap},n∉ns→(setMany h ns bs)[n]? = h[n]?
 | [],bs,h,_=>by cases bs<;>rfl
 |m::ns,[],h,_=>rfl
 |m::ns,b::bs,h,hn=>by
  simp only[setMany]
  rw[setMany_get (fun e=>hn (by simp[e])),List.getElem?_set_ne (fun e=>hn (by simp[e]))]
theorem perform_set {al:Nat→Bool}{nm n:Nat}{h h1:Heap}{p:Plan}{v:V}{rs:List Prop}{B:Option Blk}(hf:perform arR al nm h p=some (v,h1,rs)) (ha:al n=false) (hne:nm≠n):perform arR al nm (h.set n B) p=some (v,h1.set n B,rs):=by
 have out:∀{b:Nat},al b=true→(h.set n B)[b]? = h[b]?:=fun {b} hb=>by
  rw[List.getElem?_set_ne]
  intro e
  subst e
  rw[hb]at ha;cases ha
 have ne:∀{b:Nat},al b=true→n≠b:=fun {b} hb e=>by subst e;rw[hb]at ha;cases ha
 cases p with
 |callh s args=>
  obtain⟨k1,k2,e,bs,k3,rfl,k4⟩:=perform_callh hf
  have nk:∀k,k<e→n≠nm+k:=by
   rintro k hk rfl
   rcases(k3 k hk).2 with rfl|hx
   ·exact hne rfl
   ·rw[hx]at ha;cases ha
  obtain⟨-,k5⟩:=k4 (h.set n B) (fun m hm=>out (k1 m hm)) (fun k hk=>List.getElem?_set_ne (nk k hk))
  rw[k5,setMany_set]
  intro hm
  rcases List.mem_append.1 hm with hm|hm
  ·exact ne (k1 n (List.mem_filter.1 hm).1) rfl
  ·rw[List.mem_range']at hm
   obtain⟨k,hk,e⟩:=hm
   exact nk k hk (by rw[e,Nat.one_mul])
 |val v=>
  simp only[perform,sie,po]at hf ⊢
  obtain⟨rfl,rfl,rfl⟩:=hf
  exact⟨rfl,rfl,rfl⟩
 |load b off s ag=>
  obtain⟨hal,rfl,hl⟩:=perform_load hf
  exact hl _ (out hal)
 |text b off len=>
  obtain⟨hal,rfl,hl⟩:=perform_text hf
  exact hl _ (out hal)
 |froze b k len cap ys=>
  obtain⟨hal,hb,rfl,hl⟩:=perform_froze hf
  rw[hl _ (out hal),List.set_comm _ _ (ne hal),List.set_comm _ _ (Ne.symm hne)]
 |store b off x s=>
  obtain⟨hal,B',rfl,hl⟩:=perform_store hf
  rw[hl _ (out hal),List.set_comm _ _ (ne hal)]
 |copy b off n' s=>
  obtain⟨hal,B',rfl,hl⟩:=perform_copy hf
  rw[hl _ (out hal),List.set_comm _ _ (ne hal)]
 |alloc g sg=>
  simp only[perform,sie,po]at hf ⊢
  obtain⟨rfl,rfl,rfl⟩:=hf
  exact⟨rfl,List.set_comm _ _ (Ne.symm hne),rfl⟩
 |fresh t s xs=>
  cases t with
  |none=>
   simp only[perform,sie,po]at hf ⊢
   obtain⟨rfl,rfl,rfl⟩:=hf
   exact⟨rfl,List.set_comm _ _ (Ne.symm hne),rfl⟩
  |some b=>
   obtain⟨hal,hb,rfl,hl⟩:=perform_tailed hf
   rw[hl _ (out hal),List.set_comm _ _ (ne hal),List.set_comm _ _ (Ne.symm hne)]
theorem perform_unset {al:Nat→Bool}{nm n:Nat}{h h1:Heap}{p:Plan}{v:V}{rs:List Prop}{B:Option Blk}(hf:perform arR al nm (h.set n B) p=some (v,h1,rs)) (ha:al n=false) (hne:nm≠n):∃h2,perform arR al nm h p=some (v,h2,rs)∧h1=h2.set n B:=by
 have e:∃B0,(h.set n B).set n B0=h:=by
  by_cases hn:n<h.length
  ·refine⟨h[n],?_⟩
   rw[List.set_set]
   exact List.set_getElem_self hn
  ·exact⟨B,by rw[List.set_set,List.set_eq_of_length_le (by omega)]⟩
 obtain⟨B0,e⟩:=e
 have h2:=perform_set (B:=B0) hf ha hne
 rw[e]at h2
 refine⟨_,h2,?_⟩
 have h3:=perform_set (B:=B) h2 ha hne
 rw[hf]at h3
 simp only[sie,po,true_and,and_true]at h3
 exact h3
theorem maker {p:Plan}{b:Nat}(h:plab p=(3,b)) (nm:Nat):∃(v:V) (B:Option Blk),∀al h,perform arR al nm h p=some (v,h.set nm B,[]):=by
 cases p with
 |alloc g sg=>exact⟨_,_,fun al h=>rfl⟩
 |fresh t s xs=>
  cases t with
  |none=>exact⟨_,_,fun al h=>rfl⟩
  |some b=>simp[plab]at h
 |_=>simp[plab]at h
theorem perform_comm {ai aj:Nat→Bool}{ni nj:Nat}{h h1 h2:Heap}{pi pj:Plan}{vi vj:V}{ri rj:List Prop}(hi:perform arR ai ni h pi=some (vi,h1,ri)) (hj:perform arR aj nj h1 pj=some (vj,h2,rj))
 (hc:clsOk2 (plab pi) (plab pj)=true) (h3:ai nj=false) (h4:aj ni=false) (h5:ni≠nj):
 ∃h1',perform arR aj nj h pj=some (vj,h1',rj)∧perform arR ai ni h1' pi=some (vi,h2,ri):=by
 by_cases hmi:(plab pi).1=3
 ·obtain⟨v,B,hm⟩:=maker (p:=pi) (b:=(plab pi).2) (by rw[←hmi]) ni
  rw[hm]at hi
  simp only[sie,po]at hi
  obtain⟨rfl,rfl,rfl⟩:=hi
  obtain⟨h2',e1,e2⟩:=perform_unset hj h4 (Ne.symm h5)
  exact⟨h2',e1,by rw[hm,e2]⟩
 by_cases hmj:(plab pj).1=3
 ·obtain⟨v,B,hm⟩:=maker (p:=pj) (b:=(plab pj).2) (by rw[←hmj]) nj
  rw[hm]at hj
  simp only[sie,po]at hj
  obtain⟨rfl,rfl,rfl⟩:=hj
  exact⟨_,hm _ _,perform_set hi h3 h5⟩
 have val:∀{v:V},pj=.val v→∃h1',perform arR aj nj h pj=some (vj,h1',rj)∧perform arR ai ni h1' pi=some (vi,h2,ri):=by
  rintro v rfl
  simp only[perform,sie,po]at hj
  obtain⟨rfl,rfl,rfl⟩:=hj
  exact⟨h,rfl,hi⟩
 have four:∀{x:Nat},plab pi=(4,x)→∃h1',perform arR aj nj h pj=some (vj,h1',rj)∧perform arR ai ni h1' pi=some (vi,h2,ri):=by
  intro x e
  rw[e]at hc
  cases pj with
  |val v=>exact val rfl
  |alloc g sg=>exact absurd rfl hmj
  |fresh t s xs=>cases t with
   |none=>exact absurd rfl hmj
   |some b=>simp[plab,clsOk2]at hc
  |_=>simp[plab,clsOk2]at hc
 have reads:∀{b:Nat},plab pi=(1,b)→ai b=true→h1=h→(∀h',h'[b]? = h[b]?→perform arR ai ni h' pi=some (vi,h',ri))→∃h1',perform arR aj nj h pj=some (vj,h1',rj)∧perform arR ai ni h1' pi=some (vi,h2,ri):=by
  rintro b e hal rfl hl
  rw[e]at hc
  cases pj with
  |val v=>exact val rfl
  |alloc g sg=>exact absurd rfl hmj
  |fresh t s xs=>cases t with
   |none=>exact absurd rfl hmj
   |some b'=>
    obtain⟨hal',hb',rfl,hl'⟩:=perform_tailed hj
    have hne:b≠b':=by intro e;subst e;simp[plab,clsOk2]at hc
    have hnj:b≠nj:=by intro e;subst e;rw[hal]at h3;cases h3
    exact⟨_,hj,hl _ (by rw[List.getElem?_set_ne (Ne.symm hnj),List.getElem?_set_ne (Ne.symm hne)])⟩
  |load b' off' s' ag'=>
   obtain⟨_,rfl,_⟩:=perform_load hj
   exact⟨h2,hj,hi⟩
  |text b' off' len'=>
   obtain⟨_,rfl,_⟩:=perform_text hj
   exact⟨h2,hj,hi⟩
  |store b' off' x' s'=>
   obtain⟨hal',B',rfl,hl'⟩:=perform_store hj
   have hne:b≠b':=by intro e;subst e;simp[plab,clsOk2]at hc
   exact⟨_,hj,hl _ (List.getElem?_set_ne (Ne.symm hne))⟩
  |callh=>simp[plab,clsOk2]at hc
  |froze=>simp[plab,clsOk2]at hc
  |copy=>simp[plab,clsOk2]at hc
 cases pi with
 |alloc g sg=>exact absurd rfl hmi
 |val v=>
  simp only[perform,sie,po]at hi
  obtain⟨rfl,rfl,rfl⟩:=hi
  exact⟨h2,hj,rfl⟩
 |callh s args=>exact four rfl
 |froze=>exact four rfl
 |copy=>exact four rfl
 |fresh t s xs=>
  cases t with
  |none=>exact absurd rfl hmi
  |some b=>
   obtain⟨hal,hb,rfl,hl⟩:=perform_tailed hi
   have hbn:b≠nj:=by intro e;subst e;rw[hal]at h3;cases h3
   have back:∀{b':Nat},aj b'=true→b≠b'→((h.set b (some ⟨true,.dead⟩)).set ni (some ⟨false,.tail⟩))[b']? = h[b']?:=by
    intro b' ha' hne
    have hni:b'≠ni:=by intro e;subst e;rw[ha']at h4;cases h4
    rw[List.getElem?_set_ne (Ne.symm hni),List.getElem?_set_ne hne]
   cases pj with
   |val v=>exact val rfl
   |alloc g sg=>exact absurd rfl hmj
   |callh=>simp[plab,clsOk2]at hc
   |froze=>simp[plab,clsOk2]at hc
   |copy=>simp[plab,clsOk2]at hc
   |load b' off' s' ag'=>
    obtain⟨hal',rfl,hl'⟩:=perform_load hj
    have hne:b≠b':=by intro e;subst e;simp[plab,clsOk2]at hc
    exact⟨h,hl' h (back hal' hne).symm,hi⟩
   |text b' off' len'=>
    obtain⟨hal',rfl,hl'⟩:=perform_text hj
    have hne:b≠b':=by intro e;subst e;simp[plab,clsOk2]at hc
    exact⟨h,hl' h (back hal' hne).symm,hi⟩
   |store b' off' x' s'=>
    obtain⟨hal',B',rfl,hl'⟩:=perform_store hj
    have hne:b≠b':=by intro e;subst e;simp[plab,clsOk2]at hc
    have hni:b'≠ni:=by intro e;subst e;rw[hal']at h4;cases h4
    refine⟨_,hl' h (back hal' hne).symm,?_⟩
    rw[hl _ (List.getElem?_set_ne (Ne.symm hne)),List.set_comm _ _ (Ne.symm hni),List.set_comm _ _ hne]
   |fresh t s' xs'=>cases t with
    |none=>exact absurd rfl hmj
    |some b'=>
     obtain⟨hal',hb',rfl,hl'⟩:=perform_tailed hj
     have hne:b≠b':=by intro e;subst e;simp[plab,clsOk2]at hc
     have hni:b'≠ni:=by intro e;subst e;rw[hal']at h4;cases h4
     refine⟨_,hl' h (back hal' hne).symm,?_⟩
     rw[hl _ (by rw[List.getElem?_set_ne (Ne.symm hbn),List.getElem?_set_ne (Ne.symm hne)])]
     rw[List.set_comm _ _ (Ne.symm hni),List.set_comm (i:=ni) (j:=nj) _ _ h5,List.set_comm (i:=b) (j:=b') _ _ hne,List.set_comm (i:=b) (j:=nj) _ _ hbn]
 |load b off s ag=>
  obtain⟨hal,e,hl⟩:=perform_load hi
  exact reads rfl hal e hl
 |text b off len=>
  obtain⟨hal,e,hl⟩:=perform_text hi
  exact reads rfl hal e hl
 |store b off x s=>
  obtain⟨hal,B,rfl,hl⟩:=perform_store hi
  have rd:∀{b':Nat},plab pj=(1,b')→h2=h.set b B→(∀h',h'[b']? = (h.set b B)[b']?→perform arR aj nj h' pj=some (vj,h',rj))→∃h1',perform arR aj nj h pj=some (vj,h1',rj)∧perform arR ai ni h1' (.store b off x s)=some (vi,h2,ri):=by
   rintro b' e rfl hl'
   rw[e]at hc
   have hne:b≠b':=by intro e;subst e;simp[plab,clsOk2]at hc
   exact⟨h,hl' h (List.getElem?_set_ne hne).symm,hi⟩
  cases pj with
  |callh=>simp[plab,clsOk2]at hc
  |froze=>simp[plab,clsOk2]at hc
  |copy=>simp[plab,clsOk2]at hc
  |fresh t s' xs'=>cases t with
   |none=>exact absurd rfl hmj
   |some b'=>
    obtain⟨hal',hb',rfl,hl'⟩:=perform_tailed hj
    have hne:b≠b':=by intro e;subst e;simp[plab,clsOk2]at hc
    have hnj:b≠nj:=by intro e;subst e;rw[hal]at h3;cases h3
    refine⟨_,hl' h (List.getElem?_set_ne hne).symm,?_⟩
    rw[hl _ (by rw[List.getElem?_set_ne (Ne.symm hnj),List.getElem?_set_ne (Ne.symm hne)]),List.set_comm (i:=b) (j:=b') _ _ hne,List.set_comm (i:=b) (j:=nj) _ _ hnj]
  |val v=>exact val rfl
  |load b' off' s' ag'=>
   obtain⟨hal',e,hl'⟩:=perform_load hj
   exact rd rfl e hl'
  |text b' off' len'=>
   obtain⟨hal',e,hl'⟩:=perform_text hj
   exact rd rfl e hl'
  |store b' off' x' s'=>
   obtain⟨hal',B',rfl,hl'⟩:=perform_store hj
   have hne:b≠b':=by intro e;subst e;simp[plab,clsOk2]at hc
   refine⟨_,hl' h (List.getElem?_set_ne hne).symm,?_⟩
   rw[hl _ (List.getElem?_set_ne (Ne.symm hne)),List.set_comm _ _ hne]
  |alloc g sg=>exact absurd rfl hmj
theorem perform_commH {n0:Nat}{ai aj:Nat→Bool}{ni nj:Nat}{h h1 h2:Heap}{pi pj:Plan}{vi vj:V}{ri rj:List Prop}(hi:perform arR ai ni h pi=some (vi,h1,ri)) (hj:perform arR aj nj h1 pj=some (vj,h2,rj))
 (hc:clsOk2 (plabH n0 h pi) (plabH n0 h1 pj)=true) (h3:ai nj=false) (h4:aj ni=false) (h5:ni≠nj) (hni:n0≤ni) (hnj:n0≤nj):
 ∃h1',perform arR aj nj h pj=some (vj,h1',rj)∧perform arR ai ni h1' pi=some (vi,h2,ri)∧plabH n0 h pj=plabH n0 h1 pj∧plabH n0 h1' pi=plabH n0 h pi:=by
 have same:∀{p:Plan}{a b:Heap},(∀s args,p≠.callh s args)→plabH n0 a p=plabH n0 b p:=by
  intro p a b hp
  cases p with
  |callh s args=>exact absurd rfl (hp s args)
  |_=>rfl
 have setR:∀{al:Nat→Bool}{args:List A}{g:Heap}{n:Nat}{B:Option Blk},(∀m∈reachA g args,al m=true)→al n=false→reachA (g.set n B) args=reachA g args:=by
  intro al args g n B hall hn
  refine clo_congr fun m hm=>List.getElem?_set_ne fun e=>?_
  subst e
  rw[hall n hm]at hn;cases hn
 by_cases ci:∃s args,pi=.callh s args
 ·obtain⟨s,args,rfl⟩:=ci
  obtain⟨k1,k2,e,bs,k3,k0,k4⟩:=perform_callh hi
  have outs:∀{b:Nat},(okMask n0 (reachA h args)).testBit b=true→b∉reach h args++List.range' ni e∧b∉reachA h args∧∀k,b≠ni+k:=by
   intro b hb
   obtain⟨h1,h2⟩:=okMask_bit hb
   refine⟨fun hm=>?_,h2,fun k=>by omega⟩
   rcases List.mem_append.1 hm with hm|hm
   ·exact h2 (List.mem_filter.1 hm).1
   ·rw[List.mem_range']at hm
    obtain⟨k,-,e⟩:=hm
    omega
  cases pj with
  |callh s' args'=>simp[plabH,clsOk2]at hc
  |froze=>simp[plabH,plab,clsOk2]at hc
  |copy=>simp[plabH,plab,clsOk2]at hc
  |val v=>
   simp only[perform,sie,po]at hj
   obtain⟨rfl,rfl,rfl⟩:=hj
   exact⟨h,rfl,hi,rfl,rfl⟩
  |alloc g sg=>
   simp only[perform,sie,po]at hj
   obtain⟨rfl,rfl,rfl⟩:=hj
   refine⟨_,rfl,perform_set hi h3 h5,rfl,?_⟩
   simp only[plabH]
   rw[setR k1 h3]
  |fresh t s' xs'=>
   cases t with
   |none=>
    simp only[perform,sie,po]at hj
    obtain⟨rfl,rfl,rfl⟩:=hj
    refine⟨_,rfl,perform_set hi h3 h5,rfl,?_⟩
    simp only[plabH]
    rw[setR k1 h3]
   |some b=>simp[plabH,plab,clsOk2]at hc
  |load b off sz ag=>
   obtain⟨o1,o2,o3⟩:=outs (b:=b) (by simpa [plabH,plab,clsOk2]using hc)
   obtain⟨hal,rfl,hl⟩:=perform_load hj
   refine⟨h,hl h ?_,hi,rfl,rfl⟩
   rw[k0,setMany_get o1]
  |text b off len=>
   obtain⟨o1,o2,o3⟩:=outs (b:=b) (by simpa [plabH,plab,clsOk2]using hc)
   obtain⟨hal,rfl,hl⟩:=perform_text hj
   refine⟨h,hl h ?_,hi,rfl,rfl⟩
   rw[k0,setMany_get o1]
  |store b off x sz=>
   obtain⟨o1,o2,o3⟩:=outs (b:=b) (by simpa [plabH,plab,clsOk2]using hc)
   obtain⟨hal,B,rfl,hl⟩:=perform_store hj
   obtain⟨q1,q2⟩:=k4 (h.set b B) (fun n hn=>List.getElem?_set_ne (fun e=>o2 (by rw[e];exact hn))) (fun k hk=>List.getElem?_set_ne (o3 k))
   refine⟨h.set b B,hl h ?_,?_,rfl,?_⟩
   ·rw[k0,setMany_get o1]
   ·rw[q2,setMany_set o1,k0]
   ·simp only[plabH];rw[q1]
 by_cases cj:∃s args,pj=.callh s args
 ·obtain⟨s,args,rfl⟩:=cj
  obtain⟨k1,k2,e,bs,k3,k0,k4⟩:=perform_callh hj
  have outs:∀{b:Nat},(okMask n0 (reachA h1 args)).testBit b=true→b∉reach h1 args++List.range' nj e∧b∉reachA h1 args∧∀k,b≠nj+k:=by
   intro b hb
   obtain⟨h1,h2⟩:=okMask_bit hb
   refine⟨fun hm=>?_,h2,fun k=>by omega⟩
   rcases List.mem_append.1 hm with hm|hm
   ·exact h2 (List.mem_filter.1 hm).1
   ·rw[List.mem_range']at hm
    obtain⟨k,-,e⟩:=hm
    omega
  have maker:∀{B:Option Blk},h1=h.set ni B→(∀g,perform arR ai ni g pi=some (vi,g.set ni B,ri))→∃h1',perform arR aj nj h (.callh s args)=some (vj,h1',rj)∧perform arR ai ni h1' pi=some (vi,h2,ri)∧plabH n0 h (.callh s args)=plabH n0 h1 (.callh s args)∧plabH n0 h1' pi=plabH n0 h pi:=by
   intro B e1 e2
   rw[e1]at hj
   obtain⟨h2',x1,x2⟩:=perform_unset hj h4 (Ne.symm h5)
   refine⟨h2',x1,by rw[e2,x2],?_,same fun s args e=>ci ⟨s,args,e⟩⟩
   obtain⟨y1,-⟩:=perform_callh x1
   simp only[plabH]
   rw[e1,setR y1 h4]
  cases pi with
  |callh s' args'=>exact absurd ⟨_,_,rfl⟩ ci
  |froze=>simp[plabH,plab,clsOk2]at hc
  |copy=>simp[plabH,plab,clsOk2]at hc
  |val v=>
   simp only[perform,sie,po]at hi
   obtain⟨rfl,rfl,rfl⟩:=hi
   exact⟨h2,hj,rfl,rfl,rfl⟩
  |alloc g sg=>
   simp only[perform,sie,po]at hi
   obtain⟨rfl,rfl,rfl⟩:=hi
   exact maker rfl (fun g=>rfl)
  |fresh t s' xs'=>
   cases t with
   |none=>
    simp only[perform,sie,po]at hi
    obtain⟨rfl,rfl,rfl⟩:=hi
    exact maker rfl (fun g=>rfl)
   |some b=>simp[plabH,plab,clsOk2]at hc
  |load b off sz ag=>
   obtain⟨hal,e1,hl⟩:=perform_load hi
   obtain⟨o1,o2,o3⟩:=outs (b:=b) (by simpa [plabH,plab,clsOk2]using hc)
   subst e1
   refine⟨h2,hj,hl h2 ?_,rfl,rfl⟩
   rw[k0,setMany_get o1]
  |text b off len=>
   obtain⟨hal,e1,hl⟩:=perform_text hi
   obtain⟨o1,o2,o3⟩:=outs (b:=b) (by simpa [plabH,plab,clsOk2]using hc)
   subst e1
   refine⟨h2,hj,hl h2 ?_,rfl,rfl⟩
   rw[k0,setMany_get o1]
  |store b off x sz=>
   obtain⟨hal,B,e1,hl⟩:=perform_store hi
   obtain⟨o1,o2,o3⟩:=outs (b:=b) (by simpa [plabH,plab,clsOk2]using hc)
   have ag:∀n,b≠n→h[n]? = h1[n]?:=fun n hn=>by rw[e1,List.getElem?_set_ne hn]
   obtain⟨q1,q2⟩:=k4 h (fun n hn=>ag n (fun e=>o2 (by rw[e];exact hn))) (fun k hk=>ag _ (o3 k))
   refine⟨_,q2,?_,?_,rfl⟩
   ·have e3:=setMany_set (B:=B) (bs:=bs) (h:=h) o1
    rw[hl _ (setMany_get o1),k0,←e3,←e1]
   ·simp only[plabH];rw[q1]
 have ni':∀s args,pi≠.callh s args:=fun s args e=>ci ⟨s,args,e⟩
 have nj':∀s args,pj≠.callh s args:=fun s args e=>cj ⟨s,args,e⟩
 have pl:∀{p:Plan}{a:Heap},(∀s args,p≠.callh s args)→plabH n0 a p=plab p:=by
  intro p a hp
  cases p with
  |callh s args=>exact absurd rfl (hp s args)
  |_=>rfl
 rw[pl ni',pl nj']at hc
 obtain⟨h1',x1,x2⟩:=perform_comm hi hj hc h3 h4 h5
 exact⟨h1',x1,x2,same nj',same ni'⟩
theorem stepOp_comm {n0:Nat}{ti:TypeId→TI}{tbl:Tbl}{ai aj:Nat→Bool}{ni nj:Nat}{h h1 h2:Heap}{oi oj:Op} {ti' tj':List V}{vi vj:V}{qi qj:List Prop}
 (hi:stepOp arR arR ti tbl ai ni oi ti' h=some (vi,h1,qi)) (hj:stepOp arR arR ti tbl aj nj oj tj' h1=some (vj,h2,qj))
 (hc:clsOk2 (labH tbl.hc n0 h ti' oi) (labH tbl.hc n0 h1 tj' oj)=true) (h3:ai nj=false) (h4:aj ni=false) (h5:ni≠nj) (hni:n0≤ni) (hnj:n0≤nj):
 ∃h1',stepOp arR arR ti tbl aj nj oj tj' h=some (vj,h1',qj)∧stepOp arR arR ti tbl ai ni oi ti' h1'=some (vi,h2,qi)∧labH tbl.hc n0 h tj' oj=labH tbl.hc n0 h1 tj' oj∧labH tbl.hc n0 h1' ti' oi=labH tbl.hc n0 h ti' oi:=by
 unfold stepOp at hi hj
 split at hi
 ·cases hi
 ·rename_i pi qi1 hpi
  split at hi
  ·cases hi
  ·rename_i v1 x1 r1 hfi
   simp only[sie,po]at hi
   obtain⟨rfl,rfl,rfl⟩:=hi
   split at hj
   ·cases hj
   ·rename_i pj qj1 hpj
    split at hj
    ·cases hj
    ·rename_i v2 x2 r2 hfj
     simp only[sie,po]at hj
     obtain⟨rfl,rfl,rfl⟩:=hj
     obtain⟨h1',a1,a2,a3,a4⟩:=perform_commH hfi hfj (by rw[planOp_labH hpi,planOp_labH hpj];exact hc) h3 h4 h5 hni hnj
     refine⟨h1',by simp only[stepOp,hpj,a1],by simp only[stepOp,hpi,a2],?_,?_⟩
     ·rw[←planOp_labH hpj,←planOp_labH hpj];exact a3
     ·rw[←planOp_labH hpi,←planOp_labH hpi];exact a4
theorem Eff.comm {ti:TypeId→TI}{tbl:Tbl}{ops:Array Oper}{ws:Array Nat}{n0 i j:Nat}{ei ej:Nat×Nat}{oi oj:Oper}{s s1 s2:St}(hi:Eff ti tbl ops ws n0 ei i oi s s1) (hj:Eff ti tbl ops ws n0 ej j oj s1 s2)
 (hap:oi.apart ops oj=true) (hc:clsOk2 ei ej=true) (h1:(ws.getD i 0).testBit j=false) (h2:(ws.getD j 0).testBit i=false) (h3:i≠j):
 ∃s1',Eff ti tbl ops ws n0 ej j oj s s1'∧Eff ti tbl ops ws n0 ei i oi s1' s2:=by
 obtain⟨a1,a2,a3⟩:=Oper.apart_spec hap
 have a2':∀d,oj.dst=some d→oi.dst≠some d:=fun d e1 e2=>a2 d e2 e1
 have al1:alOf ws n0 i (n0+j)=false:=by simp only[alOf,Nat.add_sub_cancel_left,h1,Bool.or_false,decide_eq_false_iff_not];omega
 have al2:alOf ws n0 j (n0+i)=false:=by simp only[alOf,Nat.add_sub_cancel_left,h2,Bool.or_false,decide_eq_false_iff_not];omega
 rcases hi with ⟨wi,li,vi,hhi,qi,ei,oki,rfl⟩|⟨wi,li,rfl⟩<;>rcases hj with ⟨wj,lj,vj,hhj,qj,ej,okj,rfl⟩|⟨wj,lj,rfl⟩
 ·simp only[wantedA_put a1,stepOp_put a1]at wj ej
  rw[labH_put a1]at lj
  rw[li,lj]at hc
  obtain⟨h1',b1,b2,b3,b4⟩:=stepOp_comm ei ej hc al1 al2 (by omega) (by omega) (by omega)
  refine⟨⟨putV s.tmps oj.dst vj,h1'⟩,.inl ⟨wj,lj.trans b3.symm,vj,h1',qj,b1,okj,rfl⟩,.inl ⟨?_,?_,vi,hhj,qi,?_,oki,?_⟩⟩
  ·rw[wantedA_put a3];exact wi
  ·rw[labH_put a3];exact li.trans b4.symm
  ·rw[stepOp_put a3];exact b2
  ·simp only[putV_comm a2]
 ·simp only[wantedA_put a1]at wj
  refine⟨⟨putV s.tmps oj.dst (.tup []),s.heap⟩,.inr ⟨wj,lj,rfl⟩,.inl ⟨?_,?_,vi,hhi,qi,?_,oki,?_⟩⟩
  ·rw[wantedA_put a3];exact wi
  ·rw[labH_put a3];exact li
  ·rw[stepOp_put a3];exact ei
  ·simp only[putV_comm a2]
 ·simp only[wantedA_put a1,stepOp_put a1]at wj ej
  rw[labH_put a1]at lj
  refine⟨⟨putV s.tmps oj.dst vj,hhj⟩,.inl ⟨wj,lj,vj,hhj,qj,ej,okj,rfl⟩,.inr ⟨?_,li,?_⟩⟩
  ·rw[wantedA_put a3];exact wi
  ·simp only[putV_comm a2]
 ·simp only[wantedA_put a1]at wj
  refine⟨⟨putV s.tmps oj.dst (.tup []),s.heap⟩,.inr ⟨wj,lj,rfl⟩,.inr ⟨?_,li,?_⟩⟩
  ·rw[wantedA_put a3];exact wi
  ·simp only[putV_comm a2]
end
section
variable {P:Program}{W0:World}{m0:Nat}{ρ:Ren}
structure Apart2 (L:Nat→Nat×Nat) (ops:Array Oper) (ws:Array Nat) (j i:Nat):Prop where
 ex:∃oj oi,ops[j]? = some oj∧ops[i]? = some oi∧oj.apart ops oi=true∧clsOk2 (L j) (L i)=true
 w1:(ws.getD j 0).testBit i=false
 w2:(ws.getD i 0).testBit j=false
theorem Chain.front {ti:TypeId→TI}{tbl:Tbl}{ops:Array Oper}{ws:Array Nat}{n0:Nat}{L:Nat→Nat×Nat}{i:Nat}:∀{pre post:List Nat} {s s':St},(∀j∈pre,j≠i∧Apart2 L ops ws j i) →
 Chain ti tbl ops ws n0 L (pre++i::post) s s'→Chain ti tbl ops ws n0 L (i::(pre++post)) s s'
 | [],post,s,s',_,h=>h
 |j::pre,post,s,s',hall,h=>by
  obtain⟨oj,s1,hoj,ej,hrest⟩:=h
  obtain⟨oi,s2,hoi,ei,hrest2⟩:=Chain.front (fun k hk=>hall k (by simp[hk])) hrest
  obtain⟨hne,⟨oj',oi',e1,e2,e3,e4⟩,w1,w2⟩:=hall j (by simp)
  rw[hoj]at e1;rw[hoi]at e2
  simp only[sie]at e1 e2
  subst e1 e2
  obtain⟨s1',f1,f2⟩:=Eff.comm ej ei e3 e4 w1 w2 hne
  exact⟨oi,s1',hoi,f1,oj,s2,hoj,f2,hrest2⟩
def Fresh (ops:Array Oper) (n0 m0:Nat) (rem:List Nat) (s:St):Prop:=∀j∈rem,∀o,ops[j]? = some o→isAlloc o.op=true→s.heap[n0+j]? = some none∧m0≤n0+j
theorem perform_fresh {al:Nat→Bool}{nm n:Nat} {h h':Heap}{p:Plan}{v:V}{rs:List Prop}(hf:perform arR al nm h p=some (v,h',rs)) (hn:h[n]? = some none) (hne:n≠nm) (ha:al n=false):h'[n]? = some none:=by
 have h1:=perform_set (B:=none) hf ha (Ne.symm hne)
 have e:h.set n none=h:=by
  obtain⟨hl,hg⟩:=ges hn
  rw[←hg]
  exact List.set_getElem_self hl
 rw[e,hf]at h1
 simp only[sie,po,true_and,and_true]at h1
 rw[h1]
 have hl:=(ges hn).1
 have:=perform_len hf
 rw[List.getElem?_set_self (by omega)]
theorem Eff.fresh {ti:TypeId→TI}{tbl:Tbl}{ops:Array Oper}{ws:Array Nat}{n0 i:Nat}{le:Nat×Nat}{o:Oper} {s s':St}(h:Eff ti tbl ops ws n0 le i o s s'){rem:List Nat}(hf:Fresh ops n0 m0 rem s) (hi:i∉rem) (hw:∀j∈rem,(ws.getD i 0).testBit j=false):Fresh ops n0 m0 rem s':=by
 rcases h with ⟨-,-,v,h',qs,e,-,rfl⟩|⟨-,-,rfl⟩
 ·intro j hj o' ho' ha
  obtain⟨e1,e2⟩:=hf j hj o' ho' ha
  refine⟨?_,e2⟩
  unfold stepOp at e
  split at e
  ·cases e
  ·split at e
   ·cases e
   ·rename_i hp _ _ _ hfm
    simp only[sie,po]at e
    obtain⟨rfl,rfl,rfl⟩:=e
    have:j≠i:=fun x=>hi (x▸hj)
    refine perform_fresh hfm e1 (by omega) ?_
    simp only[alOf,Nat.add_sub_cancel_left,hw j hj,Bool.or_false,decide_eq_false_iff_not];omega
 ·exact hf
theorem Eff.wp {ti:TypeId→TI}(hti:TIok P ti){tbl:Tbl}(htbl:TblOk P tbl){ops:Array Oper}{ws:Array Nat}{n0 i:Nat}{le:Nat×Nat}{o:Oper} {s s':St}(hoi:ops[i]? = some o) (h:Eff ti tbl ops ws n0 le i o s s') (hmn:m0≤n0)
 (hf:isAlloc o.op=true→s.heap[n0+i]? = some none∧m0≤n0+i){a:Act}{w:World}(hT:TRel ρ s.tmps a.tmps) (hH:HRel W0 m0 ρ s.heap w) (hdef:a.defers=[]){K:Act→World→Prop}{Q:Exit→Act→World→Prop}
 (hK:∀ρ' a' w',Ext ρ ρ'→TRel ρ' s'.tmps a'.tmps→HRel W0 m0 ρ' s'.heap w'→a'.defers=[]→K a' w'):wpOp P ops Q i K a w:=by
 have hdefp:∀(v:Value),(a.put o.dst v).defers=[]:=by
  intro v;cases o.dst<;>exact hdef
 unfold wpOp
 simp only[hoi]
 rcases h with ⟨hw,-,v,h',qs,e,hq,rfl⟩|⟨hw,-,rfl⟩
 ·rw[wanted_of hT hw]
  simp only[if_true]
  refine .inl (stepOp_wp (W0:=W0) (m0:=m0) (ρ:=ρ) hti htbl hT hH e hq (fun ha=>(hf ha).1) (by omega) ?_)
  intro ρ' v' w' hx hh hv
  exact hK ρ' _ w' hx ((hT.ext hx).put hv) hh (hdefp _)
 ·rw[wanted_of hT hw]
  simp only[Bool.false_eq_true,if_false]
  exact hK ρ _ w (Ext.refl ρ) (hT.put undef_rel) hH (hdefp _)
def unl (n:Nat) (listed:Array Bool):List Nat:=(List.range n).filter fun i=>!listed.getD i true
theorem mem_unl {n:Nat}{listed:Array Bool}{i:Nat}:i∈unl n listed↔i<n∧listed.getD i true=false:=by
 unfold unl
 rw[List.mem_filter,List.mem_range]
 simp only[Bool.not_eq_true']
theorem unl_split {n:Nat}{listed:Array Bool}{i:Nat}(hs:listed.size=n) (hi:i∈unl n listed):∃pre post,unl n listed=pre++i::post∧(∀j∈pre,j<i∧j∈unl n listed)∧i∉pre++post∧unl n (listed.setIfInBounds i true)=pre++post:=by
 obtain⟨hin,hil⟩:=mem_unl.1 hi
 have hr:List.range n=List.range i++i::(List.range' (i+1) (n-(i+1))):=by
  rw[List.range_eq_range',List.range_eq_range',show n=i+(n-i) by omega,←List.range'_append]
  congr 1
  rw[show n-i=(n-(i+1))+1 by omega,Nat.zero_add,Nat.one_mul,List.range'_succ]
  congr 2
  omega
 have hset:∀j,j≠i→(listed.setIfInBounds i true).getD j true=listed.getD j true:=fun j hj=>getD_set_ne true (Ne.symm hj)
 refine⟨(List.range i).filter fun i=>!listed.getD i true,(List.range' (i+1) (n-(i+1))).filter fun i=>!listed.getD i true,?_,?_,?_,?_⟩
 ·unfold unl
  rw[hr,List.filter_append,List.filter_cons_of_pos (by simp only[hil,Bool.not_false])]
 ·intro j hj
  rw[List.mem_filter,List.mem_range]at hj
  refine⟨hj.1,mem_unl.2 ⟨by omega,by simpa only[Bool.not_eq_true']using hj.2⟩⟩
 ·intro hm
  rcases List.mem_append.1 hm with hm|hm
  ·rw[List.mem_filter,List.mem_range]at hm;omega
  ·rw[List.mem_filter,List.mem_range']at hm
   obtain⟨⟨k,hk,e⟩,-⟩:=hm
   omega
 ·unfold unl
  rw[hr,List.filter_append,List.filter_cons_of_neg (by
   have:(listed.setIfInBounds i true).getD i true=true:=by
    have hlt:i<listed.size:=by omega
    simp[hlt]
   simp only[this,Bool.not_true,Bool.false_eq_true,not_false_eq_true])]
  congr 1
  ·apply List.filter_congr
   intro j hj
   rw[List.mem_range]at hj
   rw[hset j (by omega)]
  ·apply List.filter_congr
   intro j hj
   rw[List.mem_range']at hj
   obtain⟨k,hk,e⟩:=hj
   rw[hset j (by omega)]
structure DrawInv (L:Nat→Nat×Nat) (ops:Array Oper) (ws:Array Nat):Prop where
 back:∀i oi,ops[i]? = some oi→∀e∈oi.after,Region.binds .any e=true→e.on<i
 pair:∀i j,j<i→i<ops.size→(ws.getD j 0).testBit i=false∧(((ws.getD i 0).testBit j=true∧∃oi,ops[i]? = some oi∧∃e∈oi.after,Region.binds .any e=true∧(e.on=j∨(ws.getD e.on 0).testBit j=true))∨Apart2 L ops ws j i)
theorem drawInv_of {hc:FuncId→Bool}{L:Nat→Nat×Nat}{ops:Array Oper}{ws:Array Nat}(h:drawOkW hc ops ws=true) (hL:∀i j,j<i→i<ops.size→(ws.getD i 0).testBit j=false→clsOk2 (L j) (L i)=true):DrawInv L ops ws:=by
 unfold drawOkW at h
 rw[List.all_eq_true]at h
 have key:∀i oi,ops[i]? = some oi→(oi.after.all (fun e=>!Region.binds .any e||decide (e.on<i))=true)∧∀j,j<i→(ws.getD j 0).testBit i=false∧(if(ws.getD i 0).testBit j then oi.after.any (fun e=>Region.binds .any e&&(e.on == j||(ws.getD e.on 0).testBit j))else commB hc ops j i)=true:=by
  intro i oi hoi
  have hlt:i<ops.size:=(Array.getElem?_eq_some_iff.1 hoi).1
  have:=h i (List.mem_range.2 hlt)
  rw[hoi]at this
  simp only[bat]at this
  refine⟨this.1,fun j hj=>?_⟩
  have h2:=List.all_eq_true.1 this.2 j (List.mem_range.2 hj)
  simp only[bat,Bool.not_eq_true']at h2
  exact h2
 refine⟨fun i oi hoi e he hb=>?_,fun i j hj hi=>?_⟩
 ·have:=(key i oi hoi).1
  rw[Array.all_eq_true_iff_forall_mem]at this
  have:=this e he
  simp only[hb,Bool.not_true,Bool.false_or,decide_eq_true_eq]at this
  exact this
 ·obtain⟨oi,hoi⟩:∃oi,ops[i]? = some oi:=⟨ops[i],Array.getElem?_eq_getElem hi⟩
  obtain⟨h1,h2⟩:=(key i oi hoi).2 j hj
  refine⟨h1,?_⟩
  by_cases hw:(ws.getD i 0).testBit j=true
  ·rw[if_pos hw]at h2
   obtain⟨e,he,hb⟩:=Array.any_eq_true'.1 h2
   simp only[bat,Bool.or_eq_true,beq_iff_eq]at hb
   exact .inl ⟨hw,oi,hoi,e,he,hb.1,hb.2⟩
  ·have hw:(ws.getD i 0).testBit j=false:=by simpa only[Bool.not_eq_true]using hw
   rw[hw]at h2
   simp only[Bool.false_eq_true,if_false]at h2
   unfold commB at h2
   rw[hoi]at h2
   split at h2
   ·rename_i oj oi' hoj e
    simp only[sie]at e
    subst e
    exact .inr ⟨⟨oj,oi,hoj,hoi,h2,hL i j hj hi hw⟩,h1,hw⟩
   ·cases h2
def Closed (ops:Array Oper) (listed:Array Bool):Prop:=∀j oj,ops[j]? = some oj→listed.getD j false=true→∀e∈oj.after,Region.binds .any e=true→listed.getD e.on false=true
theorem waits_listed {L:Nat→Nat×Nat}{ops:Array Oper}{ws:Array Nat}(hD:DrawInv L ops ws){listed:Array Bool}(hc:Closed ops listed){j:Nat}:∀(n i:Nat),i=n→j<i→i<ops.size→(ws.getD i 0).testBit j=true →
 (∀oi,ops[i]? = some oi→∀e∈oi.after,Region.binds .any e=true→listed.getD e.on false=true)→listed.getD j false=true:=by
 intro n
 induction n using Nat.strongRecOn with
 |_ n ih=>
  intro i hin hj hi hw hall
  rcases(hD.pair i j hj hi).2 with ⟨-,oi,hoi,e,he,hb,hon⟩|ha
  ·have hl:=hall oi hoi e he hb
   rcases hon with hon|hon
   ·rw[←hon];exact hl
   ·have hlt:=hD.back i oi hoi e he hb
    by_cases hej:e.on=j
    ·rw[←hej];exact hl
    have hje:j<e.on:=by
     rcases Nat.lt_trichotomy j e.on with h|h|h
     ·exact h
     ·exact absurd h.symm hej
     ·have:=(hD.pair j e.on h (by omega)).1
      rw[hon]at this;cases this
    exact ih e.on (by omega) e.on rfl hje (by omega) hon (fun ok hok e' he' hb'=>hc e.on ok hok hl e' he' hb')
  ·have:=ha.w2;rw[hw]at this;cases this
theorem getD_low {listed:Array Bool}{i:Nat}(h:listed.getD i true=false):listed.getD i false=false:=by
 rcases Nat.lt_or_ge i listed.size with h'|h'
 ·simp[h']at h ⊢;exact h
 ·simp[Array.getElem?_eq_none h']at h
theorem wpAny_of_chain {ti:TypeId→TI}(hti:TIok P ti){tbl:Tbl}(htbl:TblOk P tbl){ops:Array Oper}{ws:Array Nat}{n0:Nat}{L:Nat→Nat×Nat}(hD:DrawInv L ops ws) (hmn:m0≤n0){sn:St}{ρ0:Ren}{Q:Exit→Act→World→Prop}
 (hQ:∀ρ' a' w',Ext ρ0 ρ'→TRel ρ' sn.tmps a'.tmps→HRel W0 m0 ρ' sn.heap w'→a'.defers=[]→Q .normal a' w'):
 ∀(fuel:Nat) (listed:Array Bool) (ρ:Ren) (s:St) (a:Act) (w:World),Ext ρ0 ρ→listed.size=ops.size→Closed ops listed→(unl ops.size listed).length≤fuel→Fresh ops n0 m0 (unl ops.size listed) s →
  Chain ti tbl ops ws n0 L (unl ops.size listed) s sn→TRel ρ s.tmps a.tmps→HRel W0 m0 ρ s.heap w→a.defers=[]→wpAny P .any ops Q fuel listed a w:=by
 have noReady:∀listed:Array Bool,Region.ready .any ops listed=[]→unl ops.size listed=[]:=by
  intro listed hr
  cases hu:unl ops.size listed with
  |nil=>rfl
  |cons i l=>
   exfalso
   have hi:i∈unl ops.size listed:=by rw[hu];simp
   obtain⟨hin,hil⟩:=mem_unl.1 hi
   have hmin:∀k,k<i→listed.getD k false=true:=by
    intro k hk
    cases hkl:listed.getD k true with
    |false=>
     exfalso
     have hkm:k∈unl ops.size listed:=mem_unl.2 ⟨by omega,hkl⟩
     have hp:(unl ops.size listed).Pairwise (· < ·):=List.Pairwise.filter _ List.pairwise_lt_range
     rw[hu]at hkm hp
     rcases List.mem_cons.1 hkm with h|h
     ·omega
     ·have:=(List.pairwise_cons.1 hp).1 k h;omega
    |true=>
     rcases Nat.lt_or_ge k listed.size with h'|h'
     ·simp[h']at hkl ⊢;exact hkl
     ·rcases Nat.lt_or_ge i listed.size with h2|h2
      ·omega
      ·simp[Array.getElem?_eq_none h2]at hil
   have:i∈Region.ready .any ops listed:=mem_ready.2 ⟨hil,ops[i],Array.getElem?_eq_getElem hin,fun e he hb=>hmin _ (hD.back i _ (Array.getElem?_eq_getElem hin) e he hb)⟩
   rw[hr]at this;cases this
 intro fuel
 induction fuel with
 |zero=>
  intro listed ρ s a w hρ hs hc hf hfr hch hT hH hd
  have hu:unl ops.size listed=[]:=List.length_eq_zero_iff.1 (by omega)
  rw[hu]at hch
  have hch:s=sn:=hch
  subst hch
  refine⟨?_,hQ ρ a w hρ hT hH hd⟩
  cases hr:Region.ready .any ops listed with
  |nil=>rfl
  |cons i l=>
   have hi:i∈Region.ready .any ops listed:=by rw[hr];simp
   obtain⟨h1,o,ho,-⟩:=mem_ready.1 hi
   have:i∈unl ops.size listed:=mem_unl.2 ⟨(Array.getElem?_eq_some_iff.1 ho).1,h1⟩
   rw[hu]at this;cases this
 |succ fuel ih=>
  intro listed ρ s a w hρ hs hc hf hfr hch hT hH hd
  refine⟨fun hr=>?_,fun i hi=>?_⟩
  ·rw[noReady listed hr]at hch
   have hch:s=sn:=hch
   subst hch
   exact hQ ρ a w hρ hT hH hd
  ·obtain⟨h1,o,ho,hall⟩:=mem_ready.1 hi
   have hin:i<ops.size:=(Array.getElem?_eq_some_iff.1 ho).1
   have him:i∈unl ops.size listed:=mem_unl.2 ⟨hin,h1⟩
   obtain⟨pre,post,e1,e2,e3,e4⟩:=unl_split hs him
   rw[e1]at hch
   have hfront:=Chain.front (fun j hj=>by
    obtain⟨hji,hjm⟩:=e2 j hj
    refine⟨by omega,?_⟩
    rcases(hD.pair i j hji hin).2 with ⟨hw,-⟩|ha
    ·exfalso
     have:=waits_listed hD hc i i rfl hji hin hw (fun oi hoi=>by rw[ho]at hoi;simp only[sie]at hoi;subst hoi;exact hall)
     have h2:=(mem_unl.1 hjm).2
     rw[getD_low h2]at this;cases this
    ·exact ha) hch
   obtain⟨o',s1,ho',heff,hrest⟩:=hfront
   rw[ho]at ho'
   simp only[sie]at ho'
   subst ho'
   refine Eff.wp (W0:=W0) (m0:=m0) (ρ:=ρ) hti htbl ho heff hmn (fun ha=>hfr i him o ho ha) hT hH hd ?_
   intro ρ' a' w' hx' hT' hH' hd'
   have hsz:(listed.setIfInBounds i true).size=ops.size:=by simp[hs]
   refine ih _ ρ' s1 a' w' (hρ.trans hx') hsz ?_ ?_ ?_ ?_ hT' hH' hd'
   ·intro j oj hj hl e he hb
    by_cases hij:i=j
    ·subst hij
     rw[ho]at hj
     simp only[sie]at hj
     subst hj
     exact getD_set_true (hall e he hb)
    ·rw[getD_set_ne false hij]at hl
     exact getD_set_true (hc j oj hj hl e he hb)
   ·rw[e4]
    rw[e1]at hf
    simp at hf ⊢;omega
   ·rw[e4]
    exact heff.fresh (fun j hj=>hfr j (by rw[e1];rcases List.mem_append.1 hj with h|h<;>simp[h])) e3 (fun j hj=>by
     have hju:j∈unl ops.size listed:=by rw[e1];rcases List.mem_append.1 hj with h|h<;>simp[h]
     obtain⟨hjn,hjl⟩:=mem_unl.1 hju
     rcases Nat.lt_trichotomy j i with hlt|rfl|hlt
     ·cases hw:(ws.getD i 0).testBit j with
      |false=>rfl
      |true=>
       have:=waits_listed hD hc i i rfl hlt hin hw (fun oi hoi=>by rw[ho]at hoi;simp only[sie]at hoi;subst hoi;exact hall)
       rw[getD_low hjl]at this;cases this
     ·exact absurd hj e3
     ·exact(hD.pair j i hlt hjn).1)
   ·rw[e4];exact hrest
end
def codeOk (hc:FuncId→Bool):Code→Bool
 |.region _ ops draw=>!draw||drawOk hc ops
 |.seq a b=>codeOk hc a&&codeOk hc b
 |.cond _ a b=>codeOk hc a&&codeOk hc b
 |.block _ b=>codeOk hc b
 |.loop b=>codeOk hc b
 |_=>true
def itemOk (hc:FuncId→Bool):Item→Bool
 |.code c=>codeOk hc c
 |.inLoop c=>codeOk hc c
 |_=>true
def itemsOk (hc:FuncId→Bool) (l:List Item):Bool:=l.all (itemOk hc)
section
variable {P:Program}{W0:World}{m0:Nat}{ρ:Ren}
theorem clsOk2_zero:∀e:Nat×Nat,clsOk2 e (0,0)=true
 |(0,_)=>rfl
 |(1,_)=>rfl
 |(2,_)=>rfl
 |(3,_)=>rfl
 |(4,_)=>rfl
 |(5,_)=>rfl
 |(6,_)=>rfl
 |(_+7,_)=>rfl
theorem okEv_spec {w:Nat}{e:Nat×Nat}:∀{evs:List (Nat×Nat)}{i:Nat},evs.length=i→okEv w e evs i=true→∀j,j<i→w.testBit j=false→clsOk2 (evs.getD (i-1-j) (0,0)) e=true
 | [],i,hl,_,j,hj,_=>by simp at hl;omega
 |e'::l,i+1,hl,h,j,hj,hw=>by
  simp only[okEv,bat,Bool.or_eq_true]at h
  have hl':l.length=i:=by simpa using hl
  by_cases hji:j=i
  ·subst hji
   rcases h.1 with h1|h1
   ·simpa using h1
   ·rw[hw]at h1;cases h1
  ·have:=okEv_spec hl' h.2 j (by omega) hw
   rw[show i+1-1-j=(i-1-j)+1 by omega,List.getD_cons_succ]
   exact this
theorem runDraw_chain {ti:TypeId→TI}{tbl:Tbl}{ops:Array Oper}{ws:Array Nat}{n0:Nat}:∀{l:List Oper}{i:Nat}{evs:List (Nat×Nat)} {r r':RS},ops.toList.drop i=l→evs.length=i→runDraw arR arR ti tbl ops ws n0 evs i l r=some r'→DecOk r→(∀q∈r'.obs,q) →
 DecOk r'∧r'.heap.length=r.heap.length∧∃L:Nat→Nat×Nat,(∀j,j<i→L j=evs.getD (i-1-j) (0,0))∧(∀k j,i≤k→j<k→k<ops.size→(ws.getD k 0).testBit j=false→clsOk2 (L j) (L k)=true)∧Chain ti tbl ops ws n0 L (List.range' i (ops.size-i)) ⟨r.tmps,r.heap⟩ ⟨r'.tmps,r'.heap⟩
 | [],i,evs,r,r',hl,hev,hr,hd,hq=>by
   simp only[runDraw,sie]at hr
   subst hr
   have:ops.size-i=0:=by
    have:=congrArg List.length hl
    simp at this;omega
   rw[this]
   exact⟨hd,rfl,fun j=>evs.getD (i-1-j) (0,0),fun j _=>rfl,fun k j h1 h2 h3=>by omega,rfl⟩
 |o::l,i,evs,r,r',hl,hev,hr,hd,hq=>by
  have hlt:i<ops.size:=by
   have:=congrArg List.length hl
   simp at this;omega
  have hoi:ops[i]? = some o:=by
   have h1:(ops.toList.drop i)[0]? = some o:=by rw[hl];rfl
   rw[List.getElem?_drop]at h1
   simpa using h1
  have hl':ops.toList.drop (i+1)=l:=by
   rw[←List.drop_drop,hl];rfl
  have hsplit:List.range' i (ops.size-i)=i::List.range' (i+1) (ops.size-(i+1)):=by
   rw[show ops.size-i=(ops.size-(i+1))+1 by omega,List.range'_succ]
  rw[hsplit]
  have hback:∀(L:Nat→Nat×Nat) (e:Nat×Nat),(∀j,j<i+1→L j=(e::evs).getD (i+1-1-j) (0,0))→L i=e∧∀j,j<i→L j=evs.getD (i-1-j) (0,0):=by
   intro L e h
   refine⟨by rw[h i (by omega)];simp,fun j hj=>?_⟩
   rw[h j (by omega),show i+1-1-j=(i-1-j)+1 by omega,List.getD_cons_succ]
  simp only[runDraw]at hr
  split at hr
  ·cases hr
  ·rename_i r2 hg
   have hq2:∀q∈r2.obs,q:=fun q h=>hq q (runDraw_obs hr q (List.mem_append_right _ h))
   obtain⟨h1,h2,h3,h4⟩:=guardAt_sem hg hd hq2
   obtain⟨c1,c2,L,l1,l2,c3⟩:=runDraw_chain hl' (by simp[hev]) hr (put_later h4 _ _ _ _) hq
   obtain⟨b1,b2⟩:=hback L _ l1
   refine⟨c1,?_,L,b2,fun k j hk hj hks hw=>?_,o,_,hoi,.inr ⟨h1,b1,rfl⟩,?_⟩
   ·rw[c2];simp only[RS.put];rw[h3]
   ·by_cases hki:k=i
    ·subst hki
     rw[b1]
     exact clsOk2_zero _
    ·exact l2 k j (by omega) hj hks hw
   ·simp only[RS.put,h2,h3]at c3
    exact c3
  ·rename_i r2 hg
   split at hr
   ·cases hr
   rename_i hoke
   have hoke:okEv (ws.getD i 0) (labH tbl.hc n0 r2.heap r2.tmps o.op) evs i=true:=by simpa using hoke
   split at hr
   ·rename_i r3 he
    have hq3:∀q∈r3.obs,q:=fun q h=>hq q (runDraw_obs hr q h)
    have hq2:∀q∈r2.obs,q:=fun q h=>hq3 q (evOp_obs he q h)
    obtain⟨h1,h2,h3,h4⟩:=guardAt_sem hg hd hq2
    obtain⟨v,h',qs,e1,e2,e3,e4,e5⟩:=evOp_sem he h4 hq3
    obtain⟨c1,c2,L,l1,l2,c3⟩:=runDraw_chain hl' (by simp[hev]) hr e5 hq
    obtain⟨b1,b2⟩:=hback L _ l1
    rw[h2,h3]at e1
    rw[h2]at e3
    refine⟨c1,?_,L,b2,fun k j hk hj hks hw=>?_,o,⟨putV r.tmps o.dst v,h'⟩,hoi,.inl ⟨h1,by rw[b1,h2,h3],v,h',qs,e1,e2,rfl⟩,?_⟩
    ·rw[c2,e4,stepOp_len e1]
    ·by_cases hki:k=i
     ·subst hki
      rw[b1,b2 j hj]
      exact okEv_spec hev hoke j hj hw
     ·exact l2 k j (by omega) hj hks hw
    ·rw[e3,e4]at c3;exact c3
   ·cases hr
theorem applyDec_rel:∀{dec:List (Tmp×Bool)}{tmps:List V}{arr:Array Value},(∀(d:Nat) (h:Bool),(d,h)∈dec→arr[d]? = some (.bool h))→TRel ρ tmps arr→TRel ρ (applyDec dec tmps) arr
 | [],_,_,_,h=>h
 |(d,b)::dec,tmps,arr,hd,h=>by
  refine applyDec_rel (dec:=dec) (tmps:=tmps.set d (.a (.one (.lbool b)))) (fun d' h' hm=>hd d' h' (by simp[hm])) ⟨by rw[h.1];simp,fun j x hx=>?_⟩
  rw[List.getElem?_set]at hx
  by_cases hdj:d=j
  ·subst hdj
   rw[if_pos rfl]at hx
   split at hx
   ·simp only[sie]at hx
    subst hx
    exact⟨.bool b,hd d b (by simp),rfl⟩
   ·cases hx
  ·rw[if_neg hdj]at hx
   exact h.2 j x hx
theorem applyDec_of {r:RS}{arr:Array Value}(hd:DecOk r) (h:TRel ρ r.tmps arr):TRel ρ (applyDec r.dec r.tmps) arr:=by
 refine applyDec_rel (fun d t hm=>?_) h
 obtain⟨b,hb,rfl⟩:=hd d t hm
 rw[List.getD_eq_getElem?_getD]at hb
 cases hx:r.tmps[d]? with
 |none=>rw[hx]at hb;simp at hb
 |some x=>
  rw[hx]at hb
  simp at hb
  subst hb
  obtain⟨v,h1,h2⟩:=h.2 d _ hx
  rw[h1]
  exact congrArg some h2
theorem unl_all (n:Nat):unl n (Array.replicate n false)=List.range n:=by
 unfold unl
 rw[List.filter_eq_self]
 intro i hi
 rw[List.mem_range]at hi
 simp[hi]
theorem HRel.padOps {h:Heap}{w:World}(hH:HRel W0 m0 ρ h w) (hc:FuncId→Bool) (ops:Array Oper):HRel W0 m0 ρ (Go.Eng.pad hc ops h) w:=by
 unfold Go.Eng.pad
 split
 ·exact hH.pad _
 ·exact hH
theorem pad_len (hc:FuncId→Bool) (ops:Array Oper) (h:Heap):h.length≤(Go.Eng.pad hc ops h).length:=by
 unfold Go.Eng.pad
 split<;>simp
theorem runOps_len {ti:TypeId→TI}{tbl:Tbl}{ops:Array Oper}:∀{l:List Oper} {r r':RS},runOps arR arR ti tbl ops l r=some r'→DecOk r→(∀q∈r'.obs,q)→DecOk r'∧r.heap.length≤r'.heap.length
 | [],r,r',h,hd,hq=>by simp only[runOps,sie]at h;subst h;exact⟨hd,Nat.le_refl _⟩
 |o::l,r,r',h,hd,hq=>by
  simp only[runOps]at h
  split at h
  ·cases h
  ·rename_i r2 hg
   have hq2:∀q∈r2.obs,q:=fun q hx=>hq q (runOps_obs h q (List.mem_append_right _ hx))
   obtain⟨h1,h2,h3,h4⟩:=guardAt_sem hg hd hq2
   obtain⟨c1,c2⟩:=runOps_len h (put_later h4 _ _ _ _) hq
   exact⟨c1,by simp only[RS.put]at c2;rw[h3]at c2;exact c2⟩
  ·rename_i r2 hg
   split at h
   ·rename_i r3 he
    have hq3:∀q∈r3.obs,q:=fun q hx=>hq q (runOps_obs h q hx)
    have hq2:∀q∈r2.obs,q:=fun q hx=>hq3 q (evOp_obs he q hx)
    obtain⟨h1,h2,h3,h4⟩:=guardAt_sem hg hd hq2
    obtain⟨v,h',qs,e1,e2,e3,e4,e5⟩:=evOp_sem he h4 hq3
    obtain⟨c1,c2⟩:=runOps_len h e5 hq
    refine⟨c1,?_⟩
    have hl:=stepOp_len e1
    rw[e4,hl]at c2
    rw[h3]at c2
    rw[List.length_append]at c2;omega
   ·cases h
theorem region_wp {ti:TypeId→TI}(hm:P.follows .mixedOrders=true) (hti:TIok P ti){tbl:Tbl}(htbl:TblOk P tbl){id:Nat}{ops:Array Oper}{draw:Bool}(hok:(!draw||drawOk tbl.hc ops)=true) {c c':Cfg}(hr:runRegion arR arR ti tbl ops draw c=some c')
 (hq:∀q∈c'.obs,q) (hm0:m0≤c.heap.length){a:Act}{w:World}(hT:TRel ρ c.tmps a.tmps) (hH:HRel W0 m0 ρ c.heap w) (hd:a.defers=[]){Q:Exit→Act→World→Prop}
 (hQ:∀ρ' a' w',Ext ρ ρ'→TRel ρ' c'.tmps a'.tmps→HRel W0 m0 ρ' c'.heap w'→a'.defers=[]→Q .normal a' w'):(Code.region id ops draw).wp P Q a w:=by
 unfold runRegion at hr
 cases draw with
 |false=>
  simp only[runAny]at hr
  split at hr
  ·rename_i r hrun
   simp only[sie]at hr
   subst hr
   refine wp_region ?_
   have:=runOps_wp (W0:=W0) (m0:=m0) hti htbl (Q:=Q) ops.toList 0 _ r ρ a w (by simp) hrun (fun d h hm=>by simp at hm) hq hm0 hT hH hd
    (fun hd' hm' ρ' a' w' hx h1 h2 h3=>hQ ρ' a' w' hx (applyDec_of hd' h1) h2 h3)
   rw[List.range_eq_range']
   simpa using this
  ·cases hr
 |true=>
  split at hr
  ·rename_i r hrun
   replace hrun:=runAny_draw hrun
   simp only[sie]at hr
   subst hr
   refine wp_region_any hm ?_
   obtain⟨c1,c2,L,l1,l2,c3⟩:=runDraw_chain (l:=ops.toList) (i:=0) (by simp) rfl hrun (fun d h hm=>by simp at hm) hq
   have hD:=drawInv_of (ws:=waits ops) (L:=L) (by simpa [drawOk]using hok) (fun i j hj hi hw=>l2 i j (Nat.zero_le _) hj hi hw)
   refine wpAny_of_chain (W0:=W0) (m0:=m0) (n0:=c.heap.length) hti htbl hD hm0 (sn:=⟨r.tmps,r.heap⟩) (ρ0:=ρ) (fun ρ' a' w' hx h1 h2 h3=>hQ ρ' a' w' hx (applyDec_of c1 h1) h2 h3) ops.size (Array.replicate ops.size false) ρ ⟨c.tmps,Go.Eng.pad tbl.hc ops c.heap⟩ a _ (Ext.refl ρ) (by simp) ?_ ?_ ?_ ?_ hT ((hH.padOps _ ops).drew _) hd
   ·intro j oj hj hl
    by_cases h:j<ops.size<;>simp[h]at hl
   ·rw[unl_all];simp
   ·rw[unl_all]
    intro j hj o ho ha
    rw[List.mem_range]at hj
    refine⟨?_,by omega⟩
    have hany:ops.any (fun o=>isAlloc o.op||isMem tbl.hc o.op)=true:=by
     rw[Array.any_eq_true']
     exact⟨o,Array.mem_of_getElem? ho,by rw[ha];rfl⟩
    unfold Go.Eng.pad
    rw[if_pos hany,List.getElem?_append_right (by omega)]
    simp[hj]
   ·rw[unl_all,List.range_eq_range']
    simpa using c3
  ·cases hr
end
end Go.Eng
