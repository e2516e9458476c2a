import Derived.Test.YtlbllaocdilafaaZ02
import Derived.Laws.CopyRow
import Derived.Great.BuildSlice
set_option linter.unusedSimpArgs false
set_option linter.unusedVariables false
namespace Go.Eng
open Go
section
variable {P:Program}{W0:World}{m0:Nat}
theorem cell_of {w:World}{r:Nat}{c:Array Value}{ty:TypeId}{fz:Nat×Nat}(h:w.heap[r]? = some (.cells c ty fz)) (o:Nat):w.cell? ⟨r,o,none⟩=c[o]?:=by
 simp[World.cell?,h]
theorem run_load {w:World}{a:Addr}{v:Value}(h:w.cell? a=some v):(load a).run P w=.ok v w:=by
 simp[load,Sem.run,h]
theorem run_loadCellsFrom {w:World}{r o:Nat}{c:Array Value}{ty:TypeId}{fz:Nat×Nat}(h:w.heap[r]? = some (.cells c ty fz)):∀(n i:Nat) (acc:Array Value),o+i+n≤c.size →
 (loadCellsFrom ⟨r,o,none⟩ i n acc).run P w=.ok (acc++c.extract (o+i) (o+i+n)) w
 |0,i,acc,_=>by simp[loadCellsFrom,srp];omega
 |n+1,i,acc,hn=>by
  have h1:w.cell? (Addr.add ⟨r,o,none⟩ i)=some (c[o+i]'(by omega)):=by
   rw[addr_add,cell_of h];exact Array.getElem?_eq_getElem (by omega)
  simp only[loadCellsFrom,srb,run_load h1,Result.andThen_ok]
  rw[run_loadCellsFrom h n (i+1) _ (by omega)]
  congr 1
  apply Array.ext_getElem?
  intro j
  simp only[Array.getElem?_append,Array.size_push,Array.getElem?_push,Array.getElem?_extract,Array.size_extract]
  by_cases hj:j<acc.size
  ·simp[hj,show j<acc.size+1 by omega,show j≠acc.size by omega]
  ·by_cases hj2:j=acc.size
   ·subst hj2
    simp[show o+i<c.size by omega]
    omega
   ·simp[hj,hj2,show ¬j<acc.size+1 by omega]
    by_cases hj3:j-(acc.size+1)<n
    ·rw[if_pos (by omega),if_pos (by omega)]
     congr 1;omega
    ·rw[if_neg (by omega),if_neg (by omega)]
theorem run_loadCells {w:World}{r o n:Nat}{c:Array Value}{ty:TypeId}{fz:Nat×Nat}(h:w.heap[r]? = some (.cells c ty fz)) (hn:o+n≤c.size):
 (loadCells ⟨r,o,none⟩ n).run P w=.ok (c.extract o (o+n)) w:=by
 rw[loadCells,run_loadCellsFrom h n 0 #[] (by omega)]
 simp
theorem at_some {g:G}{j:Nat}(h:j<g.len):∃x,g.at j=some x:=by
 cases g with
 |tail=>exact absurd h (Nat.not_lt_zero j)
 |dead=>exact absurd h (Nat.not_lt_zero j)
 |lst cs=>exact⟨cs[j],geg h⟩
 |prt ps=>exact⟨(cellsP arR ps)[j],geg h⟩
 |ints k n f=>exact⟨_,if_pos h⟩
 |col s n f=>exact⟨_,if_pos h⟩
theorem block_size {ρ:Ren}{b:Blk}{o:Nat}{c:Array Value}(hc:∀(j:Nat) (x:C),b.g.at j=some x→∃v:Value,c[o+j]? = some v∧CRel ρ x v) (hl:0<b.g.len):o+b.g.len≤c.size:=by
 obtain⟨x,hx⟩:=at_some (show b.g.len-1<b.g.len by omega)
 obtain⟨v,hv,-⟩:=hc _ _ hx
 have:=(Array.getElem?_eq_some_iff.1 hv).1
 omega
theorem load_cells {h h':Heap}{b:Nat}{off:N}{n:Nat}{ag:Bool}{al:Nat→Bool}{nm:Nat}{v:V}{rs:List Prop}{blk:Blk}(hf:perform arR al nm h (.load b off n ag)=some (v,h',rs)) (hb:h[b]? = some (some blk)):blk.g.cells=true:=by
 simp only[perform,hb]at hf
 cases hg:blk.g with
 |lst=>rfl
 |prt=>rfl
 |ints=>rfl
 |col=>rfl
 |tail=>rw[hg]at hf;cases ag<;>simp[G.cut,G.get?]at hf
 |dead=>rw[hg]at hf;cases ag<;>simp[G.cut,G.get?]at hf
theorem store_cells {h h':Heap}{b:Nat}{off:N}{x:A}{n:Nat}{al:Nat→Bool}{nm:Nat}{v:V}{rs:List Prop}{blk:Blk}(hf:perform arR al nm h (.store b off x n)=some (v,h',rs)) (hb:h[b]? = some (some blk)):blk.g.cells=true:=by
 simp only[perform,hb]at hf
 cases hg:blk.g with
 |lst=>rfl
 |prt=>rfl
 |ints=>rfl
 |col=>rfl
 |tail=>
  rw[hg]at hf
  cases x with
  |one c=>simp[G.set]at hf
  |agg g0=>cases hl:g0.len?<;>simp[G.put,hl]at hf
 |dead=>
  rw[hg]at hf
  cases x with
  |one c=>simp[G.set]at hf
  |agg g0=>cases hl:g0.len?<;>simp[G.put,hl]at hf
theorem set_cells {g g':G}{off:N}{c:C}{ps:List Prop}(h:g.set arR off c=some (g',ps)):g'.cells=true:=by
 unfold G.set at h
 (repeat' split at h)<;>first|(cases h;done)|(rw[oms]at h;obtain⟨_,-,h⟩:=h;simp only[po]at h;obtain⟨rfl,-⟩:=h;rfl)|(simp only[sie,po]at h;obtain⟨rfl,-⟩:=h;rfl)
theorem put_cells {g g0 g':G}{off:N}{ps:List Prop}(h:g.put arR off g0=some (g',ps)):g'.cells=true:=by
 unfold G.put at h
 (repeat' split at h)<;>first|(cases h;done)|(rw[oms]at h;obtain⟨_,-,h⟩:=h;simp only[po]at h;obtain⟨rfl,-⟩:=h;rfl)|(simp only[sie,po]at h;obtain⟨rfl,-⟩:=h;rfl)
theorem load_sound {ti:TypeId→TI}(hti:TIok P ti){ρ:Ren} {h h':Heap}{w:World}(hH:HRel W0 m0 ρ h w){t:TypeId}(hk:(ti t).known=true){b:Nat}{off:N}{u:Value}(hu:CRel ρ (.ptr b off) u)
 {al:Nat→Bool}{nm:Nat}{v:V}{rs:List Prop}(hf:perform arR al nm h (.load b off (ti t).size (ti t).agg)=some (v,h',rs)) (hr:∀q∈rs,q):
 h'=h∧∃v',(Instr.loadAt t u).run P w=.ok v' w∧VRel ρ v v':=by
 obtain⟨r,o,hρ,rfl⟩:=hu
 obtain⟨i,hi,his,-⟩:=(hti t hk).info
 obtain⟨d,hd,-,hag⟩:=(hti t hk).und
 have hf0:=hf
 simp only[perform]at hf
 split at hf
 ·split at hf
  ·rename_i blk hblk
   obtain⟨r',o',hρ',c,ty,fz,hw,-,hc⟩:=hH.blk _ _ hblk (load_cells hf0 hblk)
   rw[hρ]at hρ'
   simp only[sie,po]at hρ'
   obtain⟨rfl,rfl⟩:=hρ'
   split at hf
   ·rename_i ha
    rw[hag]at ha
    split at hf
    ·rename_i g ps hcut
     simp only[sie,po]at hf
     obtain⟨rfl,rfl,rfl⟩:=hf
     obtain⟨e1,e2,e3⟩:=cut_at hcut hr
     by_cases hs:(ti t).size=0
     ·refine⟨rfl,.agg #[],?_,#[],rfl,by simp[e1,hs],fun j x hx=>?_⟩
      ·simp[Instr.loadAt,Instr.sureAddr,loadVar,srb,srp,run_isAgg hd,ha,run_sizeOf hi,his,hs,loadCells,loadCellsFrom]
      ·have:=(e3 j x hx).1;omega
     ·have hsz:=block_size hc (by omega)
      refine⟨rfl,.agg (c.extract (o+off.val) (o+off.val+(ti t).size)),?_,_,rfl,by simp[e1];omega,fun j x hx=>?_⟩
      ·simp[Instr.loadAt,Instr.sureAddr,loadVar,srb,srp,run_isAgg hd,ha,run_sizeOf hi,his]
       rw[run_loadCells hw (by omega)]
       simp
      ·obtain⟨hj,hx⟩:=e3 j x hx
       obtain⟨u,hu,hcr⟩:=hc _ _ hx
       refine⟨u,?_,hcr⟩
       rw[Array.getElem?_extract,if_pos (by omega),show o+off.val+j=o+(off.val+j) by omega]
       exact hu
    ·cases hf
   ·rename_i ha
    have ha:aggOf d=false:=by rw[←hag];simpa using ha
    split at hf
    ·rename_i cx ps hget
     simp only[sie,po]at hf
     obtain⟨rfl,rfl,rfl⟩:=hf
     obtain⟨u,hu,hcr⟩:=hc _ _ (get_at hget hr)
     refine⟨rfl,u,?_,hcr⟩
     simp only[Instr.loadAt,Instr.sureAddr,loadVar,srb,srp,run_isAgg hd,ha,Result.andThen_ok,Bool.false_eq_true,if_false]
     exact run_load (by rw[cell_of hw];exact hu)
    ·cases hf
  ·cases hf
 ·cases hf
theorem HRel.write {ρ:Ren}{h:Heap} {w w':World}(hH:HRel W0 m0 ρ h w) {b r o:Nat} {blk blk':Blk}(hb:h[b]? = some (some blk)) (hro:blk.ro=false) (hcl:blk.g.cells=true) (hro':blk'.ro=false) (hcl':blk'.g.cells=true) (hρ:ρ b=some (r,o))
 (h1:w'.os=w.os) (h2:w'.tape=w.tape) (h3:w'.output=w.output) (h4:w'.heap.size=w.heap.size) (h5:∀k,k≠r→w'.heap[k]? = w.heap[k]?) (h6:∀c ty fz,w.heap[r]? = some (.cells c ty fz)→∃c' fz',w'.heap[r]? = some (.cells c' ty fz')∧c'.size=c.size) (hB:BRel ρ blk' r o w'):HRel W0 m0 ρ (h.set b (some blk')) w':=by
 have hlt:b<h.length:=(ges hb).1
 have hset:∀n,(h.set b (some blk'))[n]? = if b=n then some (some blk')else h[n]?:=fun n=>set_get hlt _ n
 have nd:∀{x:Blk},x.g.cells=true→x.g≠.dead:=fun hx e=>by rw[e]at hx;cases hx
 have nt:∀{x:Blk},x.g.cells=true→x.g≠.tail:=fun hx e=>by rw[e]at hx;cases hx
 have hother:∀n x o',b≠n→h[n]? = some (some x)→x.g≠.dead→ρ n=some (r,o')→False:=fun n x o' hn hx hd hp=>hH.sep b n r o o' blk x hn hb hro hx hd hρ hp
 have hown:∀r',Owned m0 ρ h r'→Owned m0 ρ (h.set b (some blk')) r':=by
  rintro r' ⟨n,x,o1,g1,g2,g3,g4⟩
  by_cases hn:b=n
  ·exact⟨n,blk',o1,g1,by rw[hset,if_pos hn],.inl hro',g4⟩
  ·exact⟨n,x,o1,g1,by rw[hset,if_neg hn];exact g2,g3,g4⟩
 refine⟨h1.trans hH.os,h2.trans hH.tape,h3.trans hH.output,by rw[h4];exact hH.size,fun k hk hn=>?_,fun n p hn=>?_,fun n x hx hxc=>?_,fun n m r' o1 o2 x y hnm hx hxr hy hyd hn hm=>?_,fun n r o hn hp=>(hH.new n r o hn hp).imp id (hown r),fun n r1 o1 hp=>by rw[h4];exact hH.low n r1 o1 hp,fun n x hx hg=>?_,fun n x hx hg=>?_,fun n hv=>⟨(hH.vd1 n hv).1,?_⟩,fun n x hx hp=>?_,fun r1 i v hv=>?_,fun n x r1 o1 i hx hxr hp hi=>?_,fun r i v h hr=>(hH.zold r i v h hr).imp id (hown r),fun r1 T n hy=>by
  obtain⟨c1,fz1,e1,e2⟩:=hH.yok r1 T n hy
  by_cases hne:r1=r
  ·subst hne
   obtain⟨c2,fz2,f1,f2⟩:=h6 c1 T fz1 e1
   exact⟨c2,fz2,f1,f2.trans e2⟩
  ·exact⟨c1,fz1,by rw[h5 r1 hne];exact e1,e2⟩⟩
 ·have hkr:k≠r:=by
   intro e
   subst e
   rcases Nat.lt_or_ge b m0 with g|g
   ·exact hn ⟨b,blk',o,g,by rw[hset,if_pos rfl],.inl hro',hρ⟩
   ·rcases hH.new b k o g hρ with g1|g1
    ·omega
    ·exact hn (hown k g1)
  rw[h5 k hkr]
  exact hH.frame k hk fun ho=>hn (hown k ho)
 ·by_cases hbn:b=n
  ·exact⟨blk',by rw[hset,if_pos hbn]⟩
  ·obtain⟨x,hx⟩:=hH.dom n p hn
   exact⟨x,by rw[hset,if_neg hbn];exact hx⟩
 ·rw[hset]at hx
  by_cases hbn:b=n
  ·subst hbn
   rw[if_pos rfl]at hx
   simp only[sie]at hx
   subst hx
   exact⟨r,o,hρ,hB⟩
  ·rw[if_neg hbn]at hx
   obtain⟨r',o',hn,c,ty,fz,hw,hz,hc⟩:=hH.blk n x hx hxc
   have hne:r'≠r:=by
    intro e
    subst e
    exact hother n x o' hbn hx (nd hxc) hn
   exact⟨r',o',hn,c,ty,fz,by rw[h5 r' hne];exact hw,hz,hc⟩
 ·rw[hset]at hx hy
  by_cases hbn:b=n
  ·subst hbn
   by_cases hbm:b=m
   ·exact hnm hbm
   ·rw[if_neg hbm]at hy
    rw[hρ]at hn
    simp only[sie,po]at hn
    obtain⟨rfl,rfl⟩:=hn
    exact hother m y o2 hbm hy hyd hm
  ·rw[if_neg hbn]at hx
   by_cases hbm:b=m
   ·subst hbm
    exact hH.sep n b r' o1 o2 x blk hnm hx hxr hb (nd hcl) hn hm
   ·rw[if_neg hbm]at hy
    exact hH.sep n m r' o1 o2 x y hnm hx hxr hy hyd hn hm
 ·rw[hset]at hx
  by_cases hbn:b=n
  ·rw[if_pos hbn]at hx
   simp only[sie]at hx
   subst hx
   exact absurd hg (nt hcl')
  ·rw[if_neg hbn]at hx
   obtain⟨t1,t3⟩:=hH.tails n x hx hg
   refine⟨t1,fun r1 o1 hp=>?_⟩
   obtain⟨c1,ty1,e1,e2⟩:=t3 r1 o1 hp
   have hne:r1≠r:=by
    intro e
    subst e
    exact hother n x o1 hbn hx (fun e=>by rw[hg]at e;cases e) hp
   exact⟨c1,ty1,by rw[h5 r1 hne];exact e1,e2⟩
 ·rw[hset]at hx
  by_cases hbn:b=n
  ·rw[if_pos hbn]at hx
   simp only[sie]at hx
   subst hx
   exact absurd hg (nd hcl')
  ·rw[if_neg hbn]at hx
   exact hH.deadRo n x hx hg
 ·by_cases hbn:b=n
  ·exact⟨blk',by rw[hset,if_pos hbn]⟩
  ·obtain⟨x,hx⟩:=(hH.vd1 n hv).2
   exact⟨x,by rw[hset,if_neg hbn];exact hx⟩
 ·by_cases hbn:b=n
  ·subst hbn;rw[hρ]at hp;cases hp
  ·rw[hset,if_neg hbn]at hx
   exact hH.vd2 n x hx hp
 ·have hne:r1≠r:=by
   intro e
   subst e
   rw[hH.zsep b blk r1 o i hb hro hρ (fun e=>absurd e (nt hcl))]at hv
   cases hv
  obtain⟨c1,ty1,fz1,e1,e2⟩:=hH.zok r1 i v hv
  exact⟨c1,ty1,fz1,by rw[h5 r1 hne];exact e1,e2⟩
 ·rw[hset]at hx
  by_cases hbn:b=n
  ·subst hbn
   rw[hρ]at hp
   simp only[sie,po]at hp
   obtain⟨rfl,rfl⟩:=hp
   exact hH.zsep b blk r o i hb hro hρ (fun e=>absurd e (nt hcl))
  ·rw[if_neg hbn]at hx
   exact hH.zsep n x r1 o1 i hx hxr hp hi
theorem HRel.alloc {ρ:Ren}{h:Heap}{w:World}(hH:HRel W0 m0 ρ h w){nm:Nat}(hnm:h[nm]? = some none) (hm:m0≤nm){g:G}{arr:Array Value}{ty:TypeId}(hg:GRel ρ g arr) (hgc:g.cells=true):
 ∃ρ',Ext ρ ρ'∧ρ' nm=some (w.heap.size,0)∧HRel W0 m0 ρ' (h.set nm (some {ro:=false,g:=g})) {w with heap:=w.heap.push (.cells arr ty) }:=by
 have hlt:nm<h.length:=(ges hnm).1
 have hfree:=hH.free hnm
 have hset:∀n (x:Option Blk),(h.set nm x)[n]? = if nm=n then some x else h[n]?:=fun n x=>set_get hlt x n
 have hx:Ext ρ (ρ.name nm (w.heap.size,0) 0):=Ext.name hfree
 have hP:=hH.push (.cells arr ty) w.drawn
 have hget:({w with heap:=w.heap.push (.cells arr ty) }:World).heap[w.heap.size]? = some (.cells arr ty):=by
  show(w.heap.push _)[w.heap.size]? = _
  simp
 have hat:∀n p,(ρ.name nm (w.heap.size,0) 0) n=some p→(n=nm∧p=(w.heap.size,0))∨(n≠nm∧ρ n=some p):=by
  intro n p hp
  have hp:(if n=nm then some (w.heap.size,0)else ρ n)=some p:=hp
  by_cases hn:n=nm
  ·rw[if_pos hn]at hp;exact .inl ⟨hn,(Option.some.inj hp).symm⟩
  ·rw[if_neg hn]at hp;exact .inr ⟨hn,hp⟩
 have nd:g≠.dead:=fun e=>by rw[e]at hgc;cases hgc
 have nt:g≠.tail:=fun e=>by rw[e]at hgc;cases hgc
 have hown:∀r',Owned m0 ρ h r'→Owned m0 (ρ.name nm (w.heap.size,0) 0) (h.set nm (some {ro:=false,g:=g})) r':=by
  rintro r' ⟨n,x,o1,g1,g2,g3,g4⟩
  refine⟨n,x,o1,g1,?_,g3,(hx.f n _ g4).1⟩
  rw[hset,if_neg]
  ·exact g2
  ·intro e;subst e;rw[hfree]at g4;cases g4
 refine⟨ρ.name nm (w.heap.size,0) 0,hx,by show(if nm=nm then _ else _)=_;rw[if_pos rfl],hP.os,hP.tape,hP.output,hP.size,fun k hk hn=>?_,fun n p hp=>?_,fun n b hb hc=>?_,fun n m r o o' b b' hnm' hb hro hb' hd h1 h2=>?_,fun n r o hmn hp=>?_,fun n r o hp=>?_,fun n b hb hg'=>?_,fun n b hb hg'=>?_,fun n hv=>?_,fun n b hb hp=>?_,hP.zok,fun n b r o i hb hro hp hi=>?_,fun r i v h hr=>(hP.zold r i v h hr).imp id (hown r),hP.yok⟩
 ·exact hP.frame k hk fun ho=>hn (hown k ho)
 ·rcases hat n p hp with ⟨e1,-⟩|⟨e1,hp⟩
  ·exact⟨_,by rw[hset,if_pos e1.symm]⟩
  ·obtain⟨x,hx⟩:=hP.dom n p hp
   exact⟨x,by rw[hset,if_neg (Ne.symm e1)];exact hx⟩
 ·rw[hset]at hb
  by_cases hn:nm=n
  ·rw[if_pos hn]at hb
   simp only[sie]at hb
   subst hb
   refine⟨w.heap.size,0,by show(if n=nm then _ else _)=_;rw[if_pos hn.symm],arr,ty,(0,0),hget,fun _=>rfl,fun j y hy=>?_⟩
   obtain⟨v,hv,hc⟩:=hg.2 j y hy
   exact⟨v,by rw[Nat.zero_add];exact hv,hc.ext hx⟩
  ·rw[if_neg hn]at hb
   obtain⟨r,o,e1,e2⟩:=hP.blk n b hb hc
   exact⟨r,o,(hx.f n _ e1).1,e2.ext hx⟩
 ·rw[hset]at hb hb'
  rcases hat n _ h1 with ⟨e1,e2⟩|⟨e1,h1⟩
  ·simp only[po]at e2
   rcases hat m _ h2 with ⟨e3,-⟩|⟨e3,h2⟩
   ·exact hnm' (e1.trans e3.symm)
   ·have:=hH.low m r o' h2;omega
  ·rw[if_neg (Ne.symm e1)]at hb
   rcases hat m _ h2 with ⟨e3,e4⟩|⟨e3,h2⟩
   ·simp only[po]at e4
    have:=hH.low n r o h1;omega
   ·rw[if_neg (Ne.symm e3)]at hb'
    exact hH.sep n m r o o' b b' hnm' hb hro hb' hd h1 h2
 ·rcases hat n _ hp with ⟨e1,e2⟩|⟨e1,hp⟩
  ·simp only[po]at e2
   have:=hH.size;exact .inl (by omega)
  ·exact(hH.new n r o hmn hp).imp id (hown r)
 ·rcases hat n _ hp with ⟨e1,e2⟩|⟨e1,hp⟩
  ·simp only[po]at e2
   show r<(w.heap.push _).size
   simp only[Array.size_push];omega
  ·exact hP.low n r o hp
 ·rw[hset]at hb
  by_cases hn:nm=n
  ·rw[if_pos hn]at hb
   simp only[sie]at hb
   subst hb
   exact absurd hg' nt
  ·rw[if_neg hn]at hb
   obtain⟨t1,t3⟩:=hP.tails n b hb hg'
   refine⟨t1,fun r o hp=>?_⟩
   rcases hat n _ hp with ⟨e1,-⟩|⟨e1,hp⟩
   ·exact absurd e1.symm hn
   ·obtain⟨c1,ty1,f1,f2⟩:=t3 r o hp
    refine⟨c1,ty1,f1,?_⟩
    show o+(if n=nm then 0 else ρ.room n)≤_
    rw[if_neg e1];exact f2
 ·rw[hset]at hb
  by_cases hn:nm=n
  ·rw[if_pos hn]at hb
   simp only[sie]at hb
   subst hb
   exact absurd hg' nd
  ·rw[if_neg hn]at hb
   exact hP.deadRo n b hb hg'
 ·obtain⟨g1,b,g2⟩:=hP.vd1 n hv
  have hne:nm≠n:=fun e=>by subst e;rw[hnm]at g2;cases g2
  exact⟨by show(if n=nm then some (w.heap.size,0)else ρ n)=none;rw[if_neg (Ne.symm hne)];exact g1,b,by rw[hset,if_neg hne];exact g2⟩
 ·have hp:(if n=nm then some (w.heap.size,0)else ρ n)=none:=hp
  by_cases hn:n=nm
  ·rw[if_pos hn]at hp;cases hp
  ·rw[if_neg hn]at hp
   rw[hset,if_neg (Ne.symm hn)]at hb
   exact hP.vd2 n b hb hp
 ·rw[hset]at hb
  rcases hat n _ hp with ⟨e1,e2⟩|⟨e1,hp⟩
  ·simp only[po]at e2
   cases e:ρ.z r i with
   |none=>exact e
   |some v=>
    obtain⟨c,ty',fz,g1,-⟩:=hH.zok r i v e
    have:=(Array.getElem?_eq_some_iff.1 g1).1
    omega
  ·rw[if_neg (Ne.symm e1)]at hb
   exact hP.zsep n b r o i hb hro hp hi
end
section
variable {P:Program}{W0:World}{m0:Nat}{ρ:Ren}
def Holds (ρ:Ren) (g:G) (o:Nat) (c:Array Value):Prop:=∀(j:Nat) (x:C),g.at j=some x→∃v:Value,c[o+j]? = some v∧CRel ρ x v
structure Upd (c c':Array Value) (a:Nat) (vs:Array Value):Prop where
 at_in:∀k,k<vs.size→c'[a+k]? = vs[k]?
 at_out:∀k,(k<a∨a+vs.size≤k)→c'[k]? = c[k]?
theorem upd_of {c:Array Value}{a:Nat}{vs:Array Value}(h:a+vs.size≤c.size):Upd c (c.toList.take a++vs.toList++c.toList.drop (a+vs.size)).toArray a vs:=by
 refine⟨fun k hk=>?_,fun k hk=>?_⟩
 ·simp only[List.getElem?_toArray]
  rw[List.append_assoc,List.getElem?_append_right (by simp;omega),List.getElem?_append_left (by simp;omega)]
  rw[show a+k-(c.toList.take a).length=k by simp;omega]
  simp
 ·simp only[List.getElem?_toArray]
  rcases hk with hk|hk
  ·rw[List.append_assoc,List.getElem?_append_left (by simp;omega),List.getElem?_take_of_lt hk]
   simp
  ·rw[List.getElem?_append_right (by simp;omega),List.getElem?_drop]
   rw[show a+vs.size+(k-(c.toList.take a++vs.toList).length)=k by simp;omega]
   simp
theorem encC_rel {ρ:Ren}{s:Sh}{c:C}{d:D}{v:Value}(h:encC s c=some d) (hv:CRel ρ c v):CRel ρ (colC arR s d) v:=by
 unfold encC at h
 split at h
 ·simp only[oms]at h
  obtain⟨n,h1,rfl⟩:=h
  unfold numK at h1
  split at h1
  ·rename_i k k' n' l hn
   split at h1
   ·rename_i hk
    have:=kindEq_eq hk
    subst this
    simp only[sie]at h1
    subst h1
    rw[hv.of_num hn];rfl
   ·cases h1
  ·cases h1
 ·simp only[sie]at h;subst h;exact hv
 ·simp only[sie]at h;subst h;exact hv
 ·simp only[sie]at h;subst h;exact hv
 ·split at h
  ·rename_i hs
   have:=shEq_eq hs
   subst this
   simp only[sie]at h
   subst h
   rcases hv with hv|⟨r,o,len,cap,e1,e2,e3,e4,-⟩
   ·exact .inl hv
   ·exact .inr ⟨r,o,len,cap,e1,e2,e3,e4,fun t ht=>by cases ht⟩
  ·cases h
 ·simp only[sie]at h;subst h;exact .inl ⟨hv,rfl⟩
 ·cases h
theorem lst_put {cs l:List C}{off o:Nat} {c c' arr:Array Value}(hlr:LRel ρ l arr) (hoff:off+l.length≤cs.length) (hc:Holds ρ (.lst cs) o c) (hu:Upd c c' (o+off) arr):
 Holds ρ (.lst (cs.take off++l++cs.drop (off+l.length))) o c':=by
 have hsz:arr.size=l.length:=hlr.1
 intro j x hx
 simp only[G.at]at hx
 by_cases h1:j<off
 ·rw[List.append_assoc,List.getElem?_append_left (by simp;omega),List.getElem?_take_of_lt h1]at hx
  obtain⟨u,a1,a2⟩:=hc j x hx
  exact⟨u,by rw[hu.at_out _ (by omega)];exact a1,a2⟩
 ·by_cases h2:j<off+l.length
  ·rw[List.append_assoc,List.getElem?_append_right (by simp;omega),List.getElem?_append_left (by simp;omega)]at hx
   rw[show j-(cs.take off).length=j-off by simp;omega]at hx
   obtain⟨u,a1,a2⟩:=hlr.2 _ x hx
   refine⟨u,?_,a2⟩
   have:=hu.at_in (j-off) (by omega)
   rw[show o+off+(j-off)=o+j by omega]at this
   rw[this];exact a1
  ·rw[List.append_assoc,List.getElem?_append_right (by simp;omega),List.getElem?_append_right (by simp;omega),List.getElem?_drop]at hx
   rw[show off+l.length+(j-(cs.take off).length-l.length)=j by simp;omega]at hx
   obtain⟨u,a1,a2⟩:=hc j x hx
   exact⟨u,by rw[hu.at_out _ (by omega)];exact a1,a2⟩
theorem prt_put {ps qs rs:List Pt}{f off n o:Nat} {c c' arr:Array Value}(h:prtPut arR f ps off n qs=some rs) (hn:widthP qs=n) (hlr:LRel ρ (cellsP arR qs) arr) (hc:Holds ρ (.prt ps) o c) (hu:Upd c c' (o+off) arr):
 off+n≤(G.prt ps).len∧Holds ρ (.prt rs) o c':=by
 obtain⟨h1,h2⟩:=prtPut_take h hn
 refine⟨h1,?_⟩
 have h3:Holds ρ (.lst (cellsP arR rs)) o c':=by
  rw[h2]
  exact lst_put hlr (by rw[cellsP_len,hn];exact h1) hc hu
 exact h3
theorem set_holds {g g':G}{off:N}{cx:C}{ps:List Prop}{o:Nat} {c c':Array Value}{v:Value}(h:g.set arR off cx=some (g',ps)) (hq:∀q∈ps,q) (hc:Holds ρ g o c) (hv:CRel ρ cx v) (hu:Upd c c' (o+off.val) #[v]):
 off.val<g.len∧Holds ρ g' o c':=by
 unfold G.set at h
 split at h
 ·rename_i cs i
  split at h
  ·rename_i hi
   simp only[sie,po]at h
   obtain⟨rfl,rfl⟩:=h
   refine⟨hi,fun j x hx=>?_⟩
   simp only[G.at,List.getElem?_set]at hx
   simp only[N.val_lit]at hu
   by_cases hij:i=j
   ·subst hij
    simp[hi]at hx
    subst hx
    exact⟨v,by have:=hu.at_in 0 (by simp);simpa using this,hv⟩
   ·rw[if_neg hij]at hx
    obtain⟨u,h1,h2⟩:=hc j x hx
    exact⟨u,by rw[hu.at_out _ (by simp;omega)];exact h1,h2⟩
  ·cases h
 ·cases h
 ·rename_i k n f
  split at h
  ·rename_i k' z l hnum
   split at h
   ·rename_i hk
    have:=kindEq_eq hk
    subst this
    split at h
    ·rename_i qs hl
     simp only[sie,po]at h
     obtain⟨rfl,rfl⟩:=h
     have hlt:=leq_ok hl hq
     refine⟨by simp only[G.len];omega,fun j x hx=>?_⟩
     simp only[G.at]at hx
     by_cases hj:j<n.val
     ·rw[if_pos hj]at hx
      simp only[sie,updN_eq,updF]at hx
      by_cases hij:j=off.val
      ·rw[if_pos hij]at hx
       subst hx
       exact⟨v,by have:=hu.at_in 0 (by simp);rw[hij];simpa using this,by rw[hv.of_num hnum];rfl⟩
      ·rw[if_neg hij]at hx
       subst hx
       obtain⟨u,h1,h2⟩:=hc j (.int k (f j)) (by simp only[G.at];rw[if_pos hj])
       exact⟨u,by rw[hu.at_out _ (by simp;omega)];exact h1,h2⟩
     ·rw[if_neg hj]at hx;cases hx
    ·cases h
   ·cases h
  ·cases h
 ·rename_i s n f
  split at h
  ·rename_i d henc
   split at h
   ·rename_i qs hl
    simp only[sie,po]at h
    obtain⟨rfl,rfl⟩:=h
    have hlt:=leq_ok hl hq
    refine⟨by simp only[G.len];omega,fun j x hx=>?_⟩
    simp only[G.at]at hx
    by_cases hj:j<n.val
    ·rw[if_pos hj]at hx
     simp only[sie]at hx
     by_cases hij:j=off.val
     ·have hx:colC arR s (if j=off.val then d else f j)=x:=hx
      rw[if_pos hij]at hx
      subst hx
      exact⟨v,by have:=hu.at_in 0 (by simp);rw[hij];simpa using this,encC_rel henc hv⟩
     ·have hx:colC arR s (if j=off.val then d else f j)=x:=hx
      rw[if_neg hij]at hx
      subst hx
      obtain⟨u,h1,h2⟩:=hc j (colC arR s (f j)) (by simp only[G.at];rw[if_pos hj])
      exact⟨u,by rw[hu.at_out _ (by simp;omega)];exact h1,h2⟩
    ·rw[if_neg hj]at hx;cases hx
   ·cases h
  ·cases h
 ·rename_i qs i
  rw[oms]at h
  obtain⟨rs,h1,h2⟩:=h
  simp only[po]at h2
  obtain⟨rfl,rfl⟩:=h2
  exact prt_put h1 rfl (by
   refine⟨rfl,fun j x hx=>?_⟩
   have hj:j=0:=by
    have:=(ges hx).1
    simpa [cellsP]using this
   subst hj
   have hx:some cx=some x:=hx
   simp only[sie]at hx
   subst hx
   exact⟨v,rfl,hv⟩) hc hu
 ·cases h
 ·cases h
 ·cases h
theorem ints_put {k:IntKind}{m:N} {f f' gf:Nat→Int}{a n o:Nat} {c c' arr:Array Value}(hf:∀j,j<m.val→f' j=if a≤j∧j<a+n then gf (j-a)else f j)
 (hc:Holds ρ (.ints k m f) o c) (hv:GRel ρ (.ints k (.lit n) gf) arr) (hu:Upd c c' (o+a) arr):Holds ρ (.ints k m f') o c':=by
 have hsz:arr.size=n:=hv.1
 intro j x hx
 simp only[G.at]at hx
 by_cases hj:j<m.val
 ·rw[if_pos hj,hf j hj]at hx
  simp only[sie]at hx
  by_cases hw:a≤j∧j<a+n
  ·rw[if_pos hw]at hx
   subst hx
   obtain⟨u,h1,h2⟩:=hv.2 (j-a) (.int k (gf (j-a))) (by simp only[G.at];rw[if_pos (show j-a<(N.lit n).val by simp only[N.val_lit];omega)])
   refine⟨u,?_,h2⟩
   have:=hu.at_in (j-a) (by omega)
   rw[show o+a+(j-a)=o+j by omega]at this
   rw[this];exact h1
  ·rw[if_neg hw]at hx
   subst hx
   obtain⟨u,h1,h2⟩:=hc j (.int k (f j)) (by simp only[G.at];rw[if_pos hj])
   exact⟨u,by rw[hu.at_out _ (by omega)];exact h1,h2⟩
 ·rw[if_neg hj]at hx;cases hx
theorem put_holds {g g0 g':G}{off:N}{ps:List Prop}{o:Nat} {c c' arr:Array Value}(h:g.put arR off g0=some (g',ps)) (hq:∀q∈ps,q) (hc:Holds ρ g o c) (hv:GRel ρ g0 arr) (hu:Upd c c' (o+off.val) arr):
 off.val+arr.size≤g.len∧Holds ρ g' o c':=by
 unfold G.put at h
 split at h
 ·rename_i cs off
  split at h
  ·rename_i l hl
   have hlr:=list_rel hv hl
   split at h
   ·rename_i hoff
    simp only[sie,po]at h
    obtain⟨rfl,rfl⟩:=h
    simp only[N.val_lit]at hu ⊢
    have hsz:arr.size=l.length:=hlr.1
    refine⟨by simp only[G.len];omega,fun j x hx=>?_⟩
    simp only[G.at]at hx
    by_cases h1:j<off
    ·rw[List.append_assoc,List.getElem?_append_left (by simp;omega),List.getElem?_take_of_lt h1]at hx
     obtain⟨u,a1,a2⟩:=hc j x hx
     exact⟨u,by rw[hu.at_out _ (by omega)];exact a1,a2⟩
    ·by_cases h2:j<off+l.length
     ·rw[List.append_assoc,List.getElem?_append_right (by simp;omega),List.getElem?_append_left (by simp;omega)]at hx
      rw[show j-(cs.take off).length=j-off by simp;omega]at hx
      obtain⟨u,a1,a2⟩:=hlr.2 _ x hx
      refine⟨u,?_,a2⟩
      have:=hu.at_in (j-off) (by omega)
      rw[show o+off+(j-off)=o+j by omega]at this
      rw[this];exact a1
     ·rw[List.append_assoc,List.getElem?_append_right (by simp;omega),List.getElem?_append_right (by simp;omega),List.getElem?_drop]at hx
      rw[show off+l.length+(j-(cs.take off).length-l.length)=j by simp;omega]at hx
      obtain⟨u,a1,a2⟩:=hc j x hx
      exact⟨u,by rw[hu.at_out _ (by omega)];exact a1,a2⟩
   ·cases h
  ·split at h
   ·rename_i qs _
    split at h
    ·rename_i hw
     simp only[sie,po]at h
     obtain⟨rfl,rfl⟩:=h
     have hw:=Nat.eq_of_beq_eq_true hw
     have hsz:arr.size=widthP qs:=by rw[hv.1];simp only[G.len,cellsP_len]
     refine⟨by simp only[N.val_lit,G.len];omega,fun j x hx=>?_⟩
     obtain⟨u,a1,a2⟩:=hv.2 j x hx
     have hj:j<arr.size:=(Array.getElem?_eq_some_iff.1 a1).1
     have h2:=hu.at_in j hj
     simp only[N.val_lit,Nat.add_zero]at h2
     exact⟨u,by rw[h2];exact a1,a2⟩
    ·cases h
   ·cases h
 ·cases h
 ·rename_i k m f k' n gf
  split at h
  ·rename_i hk
   have:=kindEq_eq hk
   subst this
   have hsz:arr.size=n:=hv.1
   split at h
   ·rename_i m'
    split at h
    ·rename_i hnm
     simp only[sie,po]at h
     obtain⟨rfl,rfl⟩:=h
     refine⟨by simp only[N.val_lit,G.len];omega,ints_put (a:=0) (n:=n) (gf:=gf) (fun j hj=>?_) hc hv hu⟩
     simp only[N.val_lit]at hj
     rw[if_pos (by omega),Nat.sub_zero]
    ·split at h
     ·rename_i hle
      simp only[sie,po]at h
      obtain⟨rfl,rfl⟩:=h
      exact⟨by simp only[N.val_lit,G.len];omega,ints_put (a:=0) (n:=n) (gf:=gf) (fun j hj=>by simp[arR,blitF]) hc hv hu⟩
     ·cases h
   ·rename_i m'
    simp only[sie,po]at h
    obtain⟨rfl,rfl⟩:=h
    have hle:n≤m':=hq (arR.leN n m') (by simp)
    exact⟨by simp only[N.val_lit,N.val_sym,G.len];omega,ints_put (a:=0) (n:=n) (gf:=gf) (fun j hj=>by simp[arR,blitF]) hc hv hu⟩
  ·cases h
 ·rename_i k m f off' k' n gf hne
  split at h
  ·rename_i hk
   have:=kindEq_eq hk
   subst this
   split at h
   ·rename_i qs hl
    simp only[sie,po]at h
    obtain⟨rfl,rfl⟩:=h
    have hle:=leq_ok hl hq
    have hsz:arr.size=n:=hv.1
    exact⟨by simp only[G.len];omega,ints_put (a:=off.val) (n:=n) (gf:=gf) (fun j hj=>by simp[arR,blitF]) hc hv hu⟩
   ·cases h
  ·cases h
 ·cases h
 ·split at h
  ·rename_i qs hqs
   rw[oms]at h
   obtain⟨rs,h1,h2⟩:=h
   simp only[po]at h2
   obtain⟨rfl,rfl⟩:=h2
   have hl:=parts_rel hv hqs
   have h3:=prt_put h1 rfl hl hc hu
   refine⟨?_,h3.2⟩
   rw[hl.1,cellsP_len];exact h3.1
  ·cases h
 ·cases h
 ·cases h
 ·cases h
 ·cases h
theorem set_lt {g g':G}{off:N}{cx:C}{ps:List Prop}(h:g.set arR off cx=some (g',ps)) (hq:∀q∈ps,q):off.val<g.len:=by
 unfold G.set at h
 split at h
 ·split at h
  ·rename_i hi;exact hi
  ·cases h
 ·cases h
 ·split at h
  ·split at h
   ·split at h
    ·rename_i hl
     simp only[sie,po]at h
     obtain⟨rfl,rfl⟩:=h
     have:=leq_ok hl hq
     simp only[G.len];omega
    ·cases h
   ·cases h
  ·cases h
 ·split at h
  ·split at h
   ·rename_i hl
    simp only[sie,po]at h
    obtain⟨rfl,rfl⟩:=h
    have:=leq_ok hl hq
    simp only[G.len];omega
   ·cases h
  ·cases h
 ·rename_i qs i
  rw[oms]at h
  obtain⟨rs,h1,h2⟩:=h
  exact(prtPut_take h1 rfl).1
 ·cases h
 ·cases h
 ·cases h
theorem put_le {g g0 g':G}{off:N}{ps:List Prop}(h:g.put arR off g0=some (g',ps)) (hq:∀q∈ps,q):off.val+g0.len≤g.len:=by
 unfold G.put at h
 split at h
 ·split at h
  ·rename_i l hl
   split at h
   ·rename_i hoff
    have:g0.len=l.length:=by
     unfold G.list at hl
     split at hl<;>first|(simp only[sie]at hl;subst hl;simp[G.len])|cases hl
    simp only[N.val_lit,G.len]at *;omega
   ·cases h
  ·split at h
   ·split at h
    ·rename_i hw
     have hw:=Nat.eq_of_beq_eq_true hw
     simp only[N.val_lit,G.len,cellsP_len]at *;omega
    ·cases h
   ·cases h
 ·cases h
 ·split at h
  ·split at h
   ·split at h
    ·rename_i hnm;simp only[N.val_lit,G.len];omega
    ·split at h
     ·rename_i hle;simp only[N.val_lit,G.len];omega
     ·cases h
   ·rename_i m'
    simp only[sie,po]at h
    obtain⟨rfl,rfl⟩:=h
    have hle:=hq _ (List.mem_singleton.2 rfl)
    simp only[arR]at hle
    simp only[N.val_lit,N.val_sym,G.len];omega
  ·cases h
 ·split at h
  ·split at h
   ·rename_i hl
    simp only[sie,po]at h
    obtain⟨rfl,rfl⟩:=h
    have:=leq_ok hl hq
    simp only[N.val_lit,G.len];omega
   ·cases h
  ·cases h
 ·cases h
 ·split at h
  ·rename_i qs hqs
   rw[oms]at h
   obtain⟨rs,h1,h2⟩:=h
   rw[(parts_spec hqs).1,cellsP_len]
   exact(prtPut_take h1 rfl).1
  ·cases h
 ·cases h
 ·cases h
 ·cases h
 ·cases h
theorem isOne' {c:C}{v:Value}(h:CRel ρ c v):v.oneCell'=true:=by
 have:=h.isOne
 cases v<;>simp_all[Value.oneCell',one1]
theorem setRow_other (w:World) (r:Nat) (c:Array Value) (k:Nat) (h:k≠r):(w.setRow r c).heap[k]? = w.heap[k]?:=by
 simp only[World.setRow,Array.getElem?_modify]
 rw[if_neg (Ne.symm h)]
theorem len_of {g:G}{n:Nat}(h:g.len? = some n):g.len=n:=by
 unfold G.len? at h
 split at h<;>first|(simp only[sie]at h;subst h;first|rfl|exact cellsP_len _)|cases h
theorem oneCells {g:G}{arr:Array Value}(h:GRel ρ g arr):∀v∈arr.toList,v.oneCell'=true:=by
 intro v hv
 obtain⟨j,hj,hvj⟩:=List.getElem_of_mem hv
 have hlt:j<g.len:=by rw[←h.1];simpa using hj
 obtain⟨x,hx⟩:=at_some hlt
 obtain⟨u,hu,hc⟩:=h.2 j x hx
 have:u=v:=by
  have h1:arr[j]? = some arr.toList[j]:=by simp
  rw[hu]at h1
  rw[←hvj];exact Option.some.inj h1
 rw[←this]
 exact isOne' hc
theorem run_storeVar {t:TypeId}{i:TypeInfo}(hi:P.info? t=some i){v:Value}(hs:v.cells.size=i.size) (a:Addr) (w:World):(storeVar t a v).run P w=(storeCells a v.cells.toList).run P w:=by
 simp[storeVar,srb,run_sizeOf hi,hs]
theorem store_sound {ti:TypeId→TI}(hti:TIok P ti) {h h':Heap}{w:World}(hH:HRel W0 m0 ρ h w){t:TypeId}(hk:(ti t).known=true){b:Nat}{off:N}{u xv:Value}{x:A}(hu:CRel ρ (.ptr b off) u) (hx:ARel ρ x xv)
 {al:Nat→Bool}{nm:Nat}{v:V}{rs:List Prop}(hf:perform arR al nm h (.store b off x (ti t).size)=some (v,h',rs)) (hr:∀q∈rs,q):
 v=.tup []∧∃w',(Instr.storeAt t u xv).run P w=.ok () w'∧HRel W0 m0 ρ h' w':=by
 obtain⟨r,o,hρ,rfl⟩:=hu
 obtain⟨i,hi,his,-⟩:=(hti t hk).info
 have hf0:=hf
 simp only[perform]at hf
 split at hf
 ·split at hf
  ·rename_i blk hblk
   have hcl:=store_cells hf0 hblk
   obtain⟨r',o',hρ',c,ty,fz,hw,hfz,hc⟩:=hH.blk _ _ hblk hcl
   rw[hρ]at hρ'
   simp only[sie,po]at hρ'
   obtain⟨rfl,rfl⟩:=hρ'
   split at hf
   ·cases hf
   ·rename_i hro
    have hro:blk.ro=false:=by simpa using hro
    have hfz:=hfz hro
    subst hfz
    have fin:∀(arr:Array Value) (g':G),g'.cells=true→xv.cells=arr→arr.size=(ti t).size→(∀v∈arr.toList,v.oneCell'=true)→(0<arr.size→o+off.val+arr.size≤c.size) →
     (∀c',Upd c c' (o+off.val) arr→Holds ρ g' o c') →
     ∃w',(Instr.storeAt t (.pointer (some ⟨r,o+off.val,none⟩)) xv).run P w=.ok () w'∧HRel W0 m0 ρ (h.set b (some {blk with g:=g' })) w':=by
     intro arr g' hg' e1 e2 e3 e4 e5
     by_cases hz:arr.size=0
     ·have:arr = #[]:=Array.size_eq_zero_iff.1 hz
      subst this
      refine⟨w,?_,hH.write hblk hro hcl hro hg' hρ rfl rfl rfl rfl (fun _ _=>rfl) (fun c ty fz h=>⟨c,fz,h,rfl⟩) ⟨c,ty,(0,0),hw,fun _=>rfl,e5 c ⟨fun k hk=>by simp at hk,fun k _=>rfl⟩⟩⟩
      simp only[Instr.storeAt,Instr.sureAddr,srb,srp,Result.andThen_ok]
      rw[run_storeVar hi (by rw[e1,his,e2]),e1]
      rfl
     ·have hfit:=e4 (by omega)
      refine⟨_,?_,hH.write (w':=w.setRow r (c.toList.take (o+off.val+0)++arr.toList++c.toList.drop (o+off.val+0+arr.toList.length)).toArray) hblk hro hcl hro hg' hρ rfl rfl rfl (setRow_size _ _ _) (fun k hk=>setRow_other _ _ _ _ hk) (fun c1 ty1 fz1 h1=>⟨_,fz1,setRow_heap _ _ _ _ _ _ h1,by rw[hw]at h1;cases h1;simp;omega⟩) ⟨_,ty,(0,0),setRow_heap _ _ _ _ _ _ hw,fun _=>rfl,e5 _ ?_⟩⟩
      ·simp only[Instr.storeAt,Instr.sureAddr,srb,srp,Result.andThen_ok]
       rw[run_storeVar hi (by rw[e1,his,e2]),e1]
       exact run_storeCells_at P r (o+off.val) ty arr.toList 0 c w hw (by simpa using hfit) e3
      ·have:=upd_of (c:=c) (a:=o+off.val) (vs:=arr) hfit
       simpa using this
    split at hf
    ·rename_i cx
     split at hf
     ·rename_i hsz
      split at hf
      ·rename_i g' ps hset
       simp only[sie,po]at hf
       obtain⟨rfl,rfl,rfl⟩:=hf
       have hx':CRel ρ cx xv:=hx
       have hlt:=set_lt hset hr
       have hbs:=block_size hc (by omega)
       refine⟨rfl,fin #[xv] g' (set_cells hset) hx'.cells (by rw[hsz];rfl) (fun v hv=>?_) (fun _=>by simp;omega) (fun c' hu=>(set_holds hset hr hc hx' hu).2)⟩
       simp at hv;subst hv
       exact isOne' hx'
      ·cases hf
     ·cases hf
    ·rename_i g0
     split at hf
     ·rename_i n hn
      split at hf
      ·rename_i hns
       split at hf
       ·rename_i g' ps hput
        simp only[sie,po]at hf
        obtain⟨rfl,rfl,rfl⟩:=hf
        obtain⟨arr,rfl,hg⟩:=hx
        have hsz:arr.size=(ti t).size:=by rw[hg.1,len_of hn,hns]
        refine⟨rfl,fin arr g' (put_cells hput) rfl hsz (oneCells hg) (fun hpos=>?_) (fun c' hu=>(put_holds hput hr hc hg hu).2)⟩
        have hle:=put_le hput hr
        have hl:=hg.1
        have hbs:=block_size hc (by omega)
        omega
       ·cases hf
      ·cases hf
     ·cases hf
  ·cases hf
 ·cases hf
end
end Go.Eng
