/-
  Regions, loops, calls: the evaluator is sound.
-/
import Derived.Test.YtcbhkkeoncmigaaGreatAbCode
set_option linter.unusedVariables false
set_option linter.unusedSimpArgs false
namespace Go.Ab
open Go.RowKit
variable {P:Program}
theorem call_run {c:Call} {o:Oper} {a:Act} {gop:Operand} (ho:o.op=.call c) (hc:c.callee=.value gop) {g:FuncId} {va vb:Array Value} (hg:a.eval gop=.func (.func g) va vb) (hent:Enterable P g) (w:World) :
  (execOp a.eval o).run P w=.ok (.enter g (va++c.args.map a.eval++vb)) w:=by
 have:=hent (va++c.args.map a.eval++vb) w
 simp only [execOp,ho,resolve,hc,hg,Deferred.ofValue,Sem.run_bind,Sem.run_pure,Result.andThen_ok,invoke,this]
theorem append_rel {w:World} {G:Gm} {L:Loc→Prop} {x y:List AV} {u v:Array Value} (h:ArgsRel w G L x u) (k:ArgsRel w G L y v):ArgsRel w G L (x++y) (u++v):=by
 refine ⟨by simp [h.1,k.1],fun i hi=>?_⟩
 simp only [List.length_append] at hi
 have h1:=h.1
 by_cases c:i < x.length
 ·have e1:(x++y).getD i .top=x.getD i .top:=by simp only [List.getD_eq_getElem?_getD];rw [List.getElem?_append_left c]
  have e2:(u++v).getD i undef=u.getD i undef:=by simp only [Array.getD_eq_getD_getElem?];rw [Array.getElem?_append_left (by omega)]
  rw [e1,e2];exact h.2 i c
 ·have e1:(x++y).getD i .top=y.getD (i - x.length) .top:=by simp only [List.getD_eq_getElem?_getD];rw [List.getElem?_append_right (by omega)]
  have e2:(u++v).getD i undef=v.getD (i - x.length) undef:=by simp only [Array.getD_eq_getD_getElem?];rw [Array.getElem?_append_right (by omega),h1]
  rw [e1,e2];exact k.2 _ (by omega)
theorem call_shape {H:Hints} {f:FuncId} {o:Oper} {gf:Opd} {xs:List Opd} (hop:cOp P H f o=.m (.call gf xs)) :
  ∃ c gop,o.op=.call c∧c.callee=.value gop∧cOpd gop=some gf∧cOpds c.args.toList=some xs:=by
 unfold cOp at hop
 cases ho:o.op with
 | call c=>
  simp only [ho] at hop
  split at hop
  ·rename_i gop ys hcal hys
   split at hop
   ·split at hop<;>cases hop
   ·split at hop
    ·rename_i g' hg'
     injection hop with hop
     injection hop with e1 e2
     subst e1;subst e2
     exact ⟨c,gop,rfl,hcal,hg',hys⟩
    ·cases hop
  all_goals repeat' (first | (cases hop;done) | split at hop)
 | _=>simp only [ho] at hop;repeat' (first | (cases hop;done) | split at hop)
theorem op_call1 {O:Orc} (hO:FnSound P O) {H:Hints} {f:FuncId} {o:Oper} {gf:Opd} {xs:List Opd} (hop:cOp P H f o=.m (.call gf xs)) {K:Cfg} {w:World} {G:Gm} {h:Heap} {e:Env} {a:Act} {r:Out}
  (s:Sim w G h) (rr:EnvRel w G (dom h) e a) (hev:evM K O (.call gf xs) e h=some r) {Kp:Act→World→Prop} {Q:Exit→Act→World→Prop}
  (k:∀ en w',EndRel w G h r en w'→match en with
   | .returned x=>Kp (a.put o.dst x) w'
   | .panicked c=>Q (.panic c) a w'
   | .outgrown=>False):Oper.wp P o a w Kp Q:=by
 obtain ⟨c,gop,ho,hcal,hgop,hxs⟩:=call_shape hop
 simp only [evM] at hev
 split at hev
 ·rename_i gid first captured hgv
  split at hev
  ·rename_i vs h1 hvs
   have hrg:=opd_rel rr hgop
   rw [hgv] at hrg
   obtain ⟨va,vb,hgx,hla,hlb,hra,hrb⟩:=fn_shape hrg
   obtain ⟨q1,q2⟩:=opds_rel rr hxs
   have hargs:ArgsRel w G (dom h) (first++xs.map (·.ev e)++captured) (va++c.args.map a.eval++vb):=by
    refine append_rel (append_rel ⟨hla,hra⟩ ⟨by simp [q1],fun i hi=>?_⟩) ⟨hlb,hrb⟩
    have:=q2 i (by simpa using hi)
    have e1:(c.args.map a.eval).getD i undef=(c.args.toList.map a.eval).getD i undef:=by simp [Array.getD_eq_getD_getElem?]
    rw [e1];exact this
   obtain ⟨G1,k1,k2,k3,k4⟩:=views_ok _ (xs:=fun i=>(va++c.args.map a.eval++vb).getD i undef) s hargs.2 hvs
   obtain ⟨hent,hcl⟩:=hO gid vs h1 _ hev
   have hC:=hcl w G1 (va++c.args.map a.eval++vb) k1 ⟨by rw [hargs.1,k3],fun i hi=>k4 i (by rw [←k3];exact hi)⟩
   unfold Oper.wp
   rw [call_run ho hcal hgx hent w,Oper.upon_enter]
   refine hC.mono fun en w' hen=>?_
   have hen':EndRel w G h r en w':=by
    obtain ⟨G',l1,l2,l3⟩:=hen
    exact ⟨G',l1,k2.trans l2,l3⟩
   have:=k en w' hen'
   cases en with
   | returned x=>exact this
   | panicked c=>exact this
   | outgrown=>exact this.elim
  ·cases hev
 ·cases hev
theorem inv_shape {H:Hints} {f:FuncId} {o:Oper} {tbl:List (TypeId×FuncId)} {r:Opd} {xs:List Opd} (hop:cOp P H f o=.m (.inv tbl r xs)) :
  ∃ c recv name,o.op=.call c∧c.callee=.invoke recv name∧tbl=tblOf P name H.inv∧cOpd recv=some r∧cOpds c.args.toList=some xs:=by
 unfold cOp at hop
 cases ho:o.op with
 | call c=>
  simp only [ho] at hop
  split at hop
  ·split at hop
   ·split at hop<;>cases hop
   ·split at hop<;>cases hop
  ·rename_i recv name ys hcal hys
   split at hop
   ·rename_i r' hr'
    injection hop with hop
    injection hop with e1 e2 e3
    subst e1;subst e2;subst e3
    exact ⟨c,recv,name,rfl,hcal,rfl,hr',hys⟩
   ·cases hop
  all_goals repeat' (first | (cases hop;done) | split at hop)
 | _=>simp only [ho] at hop;repeat' (first | (cases hop;done) | split at hop)
theorem tbl_row {name:String} {t:TypeId} {g:FuncId}:∀ {ts:List TypeId},(tblOf P name ts).lookup t=some g→rowOf P name t=some g
 | [],h=>by simp [tblOf] at h
 | u :: ts,h=>by
  unfold tblOf at h
  simp only [List.filterMap_cons] at h
  cases hr:rowOf P name u with
  | none=>rw [hr] at h;exact tbl_row (ts:=ts) h
  | some g'=>
   rw [hr] at h
   simp only [Option.map_some,List.lookup_cons] at h
   split at h
   ·rename_i e
    have e:t=u:=by simpa using e
    subst e
    rw [hr]
    exact h
   ·exact tbl_row (ts:=ts) h
theorem run_row {name:String} {t:TypeId} {g:FuncId} (h:rowOf P name t=some g) (n:Nat) (v:Value) (w:World):(method (n+1) t v name).run P w=.ok (g,v) w:=by
 unfold rowOf at h
 split at h
 ·rename_i i d hi hd
  split at h
  ·cases h
  ·rename_i hnp
   split at h
   ·rename_i m hm
    split at h
    ·rename_i hpath
     split at h
     ·rename_i g' hf
      injection h with h
      subst h
      have e1:(typeInfo t).run P w=.ok i w:=by simp [typeInfo,hi]
      have e2 : (receiverAt t (.val v) false (if m.path.isEmpty then some ((name.splitOn ".").getLastD name) else none)).run P w = .ok v w := by
       unfold receiverAt
       simp only [Sem.run_bind,run_underlying hd,Result.andThen_ok]
       cases d<;>first | (exact absurd rfl (hnp _)) | rfl
      rw [hpath] at e2
      have e3:(follow [] t (.val v)).run P w=.ok (t,.val v) w:=rfl
      unfold method
      simp only [Sem.run_bind,e1,Result.andThen_ok,hm,hpath,Array.toList_empty,e3,hf,e2]
      rfl
     ·cases h
    ·cases h
   ·cases h
 ·cases h
theorem inv_run {c:Call} {o:Oper} {a:Act} {recv:Operand} {name:String} (ho:o.op=.call c) (hc:c.callee=.invoke recv name) {t:TypeId} {v:Value} (hg:a.eval recv=.iface t v) {g:FuncId} (hrow:rowOf P name t=some g) (hent:Enterable P g) (w:World) :
  (execOp a.eval o).run P w=.ok (.enter g (#[v]++c.args.map a.eval)) w:=by
 have h1:=hent (#[v]++c.args.map a.eval) w
 have h2:=fun n=>run_row hrow n v w
 have h3:((#[Value.iface t v]:Array Value)++c.args.map a.eval).extract 1 ((#[Value.iface t v]:Array Value)++c.args.map a.eval).size=c.args.map a.eval:=by
  apply Array.ext'
  simp
  exact List.take_of_length_le (by simp)
 have h4:(method (P.types.size+Made.depth) t v name).run P w=.ok (g,v) w:=h2 (P.types.size+(Made.depth - 1))
 simp only [execOp,ho,resolve,hc,hg,Sem.run_bind,Sem.run_pure,Result.andThen_ok,invoke]
 have h5:((#[Value.iface t v]:Array Value)++c.args.map a.eval)[0]?=some (.iface t v):=by
  rw [Array.getElem?_append_left (by simp)]
  rfl
 have h6:(callMethod (.iface t v) name (c.args.map a.eval)).run P w=.ok (.enter g (#[v]++c.args.map a.eval)) w:=by
  simp only [callMethod,Sem.run_bind,run_program,Result.andThen_ok,h4,h1]
 rw [h5,h3]
 exact h6
theorem op_call {O:Orc} (hO:FnSound P O) {H:Hints} {f:FuncId} {o:Oper} {q:MOp} (hop:cOp P H f o=.m q) (hq:isCall q=true) {K:Cfg} {w:World} {G:Gm} {h:Heap} {e:Env} {a:Act} {r:Out}
  (s:Sim w G h) (rr:EnvRel w G (dom h) e a) (hev:evM K O q e h=some r) {Kp:Act→World→Prop} {Q:Exit→Act→World→Prop}
  (k:∀ en w',EndRel w G h r en w'→match en with
   | .returned x=>Kp (a.put o.dst x) w'
   | .panicked c=>Q (.panic c) a w'
   | .outgrown=>False):Oper.wp P o a w Kp Q:=by
 cases q<;>try (cases hq;done)
 case call gf xs=>exact op_call1 hO hop s rr hev k
 case inv tbl x xs=>
  obtain ⟨c,recv,name,ho,hcal,rfl,hrecv,hxs⟩:=inv_shape hop
  simp only [evM] at hev
  split at hev
  ·rename_i t v hxv
   split at hev
   ·rename_i gid hlk
    split at hev
    ·rename_i vs h1 hvs
     have hrg:=opd_rel rr hrecv
     rw [hxv] at hrg
     obtain ⟨y,hgx,hy⟩:∃ y,a.eval recv=.iface t y∧VRel w G (dom h) v y:=by
      generalize a.eval recv=xv at hrg
      cases hrg with
      | iface _ _ _ y hy=>exact ⟨y,rfl,hy⟩
     obtain ⟨q1,q2⟩:=opds_rel rr hxs
     have hargs:ArgsRel w G (dom h) (v :: xs.map (·.ev e)) (#[y]++c.args.map a.eval):=by
      have:=append_rel (w:=w) (G:=G) (L:=dom h) (x:=[v]) (y:=xs.map (·.ev e)) (u:=#[y]) (v:=c.args.map a.eval) ⟨rfl,fun i hi=>by
       match i,hi with
       | 0,_=>exact hy
       | i+1,hi=>simp at hi⟩ ⟨by simp [q1],fun i hi=>?_⟩
      ·exact this
      ·have:=q2 i (by simpa using hi)
       have e1:(c.args.map a.eval).getD i undef=(c.args.toList.map a.eval).getD i undef:=by simp [Array.getD_eq_getD_getElem?]
       rw [e1];exact this
     obtain ⟨G1,k1,k2,k3,k4⟩:=views_ok _ (xs:=fun i=>(#[y]++c.args.map a.eval).getD i undef) s hargs.2 hvs
     obtain ⟨hent,hcl⟩:=hO gid vs h1 _ hev
     have hC:=hcl w G1 (#[y]++c.args.map a.eval) k1 ⟨by rw [hargs.1,k3],fun i hi=>k4 i (by rw [←k3];exact hi)⟩
     unfold Oper.wp
     rw [inv_run ho hcal hgx (tbl_row hlk) hent w,Oper.upon_enter]
     refine hC.mono fun en w' hen=>?_
     have hen':EndRel w G h r en w':=by
      obtain ⟨G',l1,l2,l3⟩:=hen
      exact ⟨G',l1,k2.trans l2,l3⟩
     have:=k en w' hen'
     cases en with
     | returned x=>exact this
     | panicked c=>exact this
     | outgrown=>exact this.elim
    ·cases hev
   ·cases hev
  ·cases hev
theorem evOps_ok {O:Orc} (hO:FnSound P O) {H:Hints} {f:FuncId} {N:Nat} {D:List Deferred} {K:Cfg} {ops:Array Oper}:∀ (l:List Oper) (st:St) (ex:Ex) (st':St),evOps K O (l.map (cOper P H f N ops)) st=some (ex,st') →
  ∀ (w0:World) (G0:Gm) (h0:Heap) (w:World) (G:Gm) (a:Act),Goes w0 G0 h0 w G st.h→Sim w G st.h→st.h≠[]→EnvRel w G (dom st.h) st.env a→a.tmps.size=N→a.defers=D →
  wpList P ops (Post N D w0 G0 h0 ex st') l a w
 | [],st,ex,st',he,w0,G0,h0,w,G,a,g,s,hn,r,hN,hd=>by
  simp only [List.map_nil,evOps,Option.some.injEq,Prod.mk.injEq] at he
  obtain ⟨rfl,rfl⟩:=he
  exact wpList_nil ⟨G,s,g,r,hN,hd,rfl⟩
 | o :: l,st,ex,st',he,w0,G0,h0,w,G,a,g,s,hn,r,hN,hd=>by
  simp only [List.map_cons,evOps] at he
  have hbad:∀ c:CO,c=cOper P H f N ops o→(c.op=.bad→False)→∃ gd,cGuard ops o.guard=some gd∧inN N o.dst=true∧c={ dst:=o.dst,gd:=gd,op:=cOp P H f o }:=fun c hc hb=>by
   unfold cOper at hc
   split at hc
   ·subst hc;exact absurd rfl hb
   ·rename_i gd hgd
    split at hc
    ·rename_i hin;exact ⟨gd,hgd,hin,hc⟩
    ·subst hc;exact absurd rfl hb
  have hshape:(cOper P H f N ops o).dst=o.dst:=by unfold cOper;split<;>(try split)<;>rfl
  unfold wpList
  split at he
  ·cases he
  ·
   rename_i hw
   have hcase:(∃ gd,cGuard ops o.guard=some gd∧inN N o.dst=true∧cOper P H f N ops o={ dst:=o.dst,gd:=gd,op:=cOp P H f o })∨(cOper P H f N ops o).gd=none:=by
    unfold cOper
    split
    ·exact .inr rfl
    ·rename_i gd hgd
     split
     ·rename_i hin;exact .inl ⟨gd,hgd,hin,rfl⟩
     ·exact .inr rfl
   rcases hcase with ⟨gd,hgd,hin,hco⟩ | hb
   ·rw [hco] at hw he
    have hwt:=wanted_ok r hgd hw
    rw [if_neg (by rw [hwt];simp)]
    exact evOps_ok hO l _ ex st' he w0 G0 h0 w G _ g s hn (r.put_ (x:=undef) (.tup _ _ _ rfl fun i hi=>by simp at hi) (by rw [hN];exact hin)) (by rw [put_size];exact hN) (by rw [put_defers];exact hd)
   ·rw [hb] at hw
    simp [wanted] at hw
  ·rename_i hw
   have hnb:(cOper P H f N ops o).op≠.bad:=fun hb=>by rw [hb] at he;cases he
   obtain ⟨gd,hgd,hin,hco⟩:=hbad _ rfl (fun hb=>hnb hb)
   rw [hco] at hw he
   simp only at he
   have hwt:=wanted_ok r hgd hw
   rw [if_pos hwt]
   refine .inl ?_
   have next:∀ {x:Value} {v:AV} {w':World} {G':Gm} {h':Heap},Sim w' G' h'→Goes w G st.h w' G' h'→VRel w' G' (dom h') v x→evOps K O (l.map (cOper P H f N ops)) { env:=put st.env o.dst v,h:=h' }=some (ex,st') →
     wpList P ops (Post N D w0 G0 h0 ex st') l (a.put o.dst x) w':=fun s' g' v' he'=>
    evOps_ok hO l _ ex st' he' w0 G0 h0 _ _ _ (g.trans g') s' (fun e0=>by have:=g'.depth;simp only at e0;rw [e0] at this;cases hs:st.h<;>simp_all) ((r.along g').put_ v' (by rw [hN];exact hin)) (by rw [put_size];exact hN) (by rw [put_defers];exact hd)
   cases hop:cOp P H f o with
   | bad=>rw [hop] at he;simp only at he;cases he
   | p q=>
    rw [hop] at he
    simp only at he
    split at he
    ·rename_i v hv
     obtain ⟨x,hx,hvx⟩:=pure_ok hop r hv
     unfold Oper.wp
     rw [hx]
     exact next s (Goes.refl w G st.h) hvx he
    ·cases he
   | m q=>
    rw [hop] at he
    simp only at he
    by_cases hcall:isCall q=true
    ·
     split at he
     ·rename_i v h' hev
      refine op_call hO hop hcall s r hev fun en w' hen=>?_
      obtain ⟨G',l1,l2,x,rfl,l3⟩:=hen
      exact next l1 l2 l3 he
     ·rename_i v h' hev
      injection he with he
      injection he with e1 e2
      subst e1;subst e2
      refine op_call hO hop hcall s r hev fun en w' hen=>?_
      obtain ⟨G',l1,l2,x,rfl,l3⟩:=hen
      exact ⟨G',l1,g.trans l2,r.along l2,hN,hd,x,rfl,l3⟩
     ·cases he
    ·have hq:isCall q=false:=by simpa using hcall
     split at he
     ·rename_i v h' hev
      obtain ⟨nx,x,w',G',k1,k2,k3,k4,k5⟩:=mem_ok s hn hop r hq hev
      unfold Oper.wp
      rw [k1]
      rcases k2 with rfl | ⟨rfl,rfl⟩
      ·exact next k3 k4 k5 he
      ·exact next k3 k4 k5 he
     ·rename_i v h' hev
      injection he with he
      injection he with e1 e2
      subst e1;subst e2
      have hp:∃ x y,o.op=.panic x∧cOpd x=some y∧q=.pan y:=by
       cases q<;>simp only [evM] at hev
       case pan y=>
        unfold cOp at hop
        cases ho:o.op with
        | panic x=>
         simp only [ho] at hop
         split at hop
         ·rename_i y' hy'
          injection hop with hop
          injection hop with e1
          subst e1
          exact ⟨x,y',rfl,hy',rfl⟩
         ·cases hop
        | _=>simp only [ho] at hop;repeat' (first | (cases hop;done) | split at hop)
       case call gf xs=>cases hq
       case inv tbl x xs=>cases hq
       all_goals repeat' (first | (cases hev;done) | split at hev | unfold appTo at hev | unfold ldQ at hev | unfold appToQ at hev | unfold toQ at hev | unfold appToV at hev | unfold toV at hev)
      obtain ⟨x,y,ho,hy,rfl⟩:=hp
      simp only [evM] at hev
      split at hev
      ·rename_i t u hyu
       injection hev with hev
       injection hev with e1 e2
       subst e1;subst e2
       obtain ⟨rv,k1,k2⟩:=m_pan (P:=P) r ho hy hyu
       unfold Oper.wp
       rw [k1,Oper.upon_panic]
       exact ⟨G,s,g,r,hN,hd,rv,rfl,k2⟩
      ·cases hev
     ·cases he
end Go.Ab
/-
  Regions that draw their order: the evaluator's one order stands for all.
-/
namespace Go.Ab
open Go.RowKit
variable {P:Program}
mutual
theorem view_clean {p:Loc→Bool}:∀ (v:AV) (h:Heap),v.refOk (fun _=>false)=true→v.view p h=some (v,h)
 | .agg cs,h,hp=>by simp only [AV.refOk] at hp;simp only [AV.view,views_clean cs h hp]
 | .tup cs,h,hp=>by simp only [AV.refOk] at hp;simp only [AV.view,views_clean cs h hp]
 | .own a n,h,hp=>by simp [AV.refOk] at hp
 | .iface t v,h,hp=>by simp only [AV.refOk] at hp;simp only [AV.view,view_clean v h hp]
 | .top,h,hp=>by simp only [AV.view]
 | .bool _,h,hp=>by simp only [AV.view]
 | .int _ _,h,hp=>by simp only [AV.view]
 | .str _,h,hp=>by simp only [AV.view]
 | .nils,h,hp=>by simp only [AV.view]
 | .emp,h,hp=>by simp only [AV.view]
 | .lst _,h,hp=>by simp only [AV.view]
 | .ptr _ _,h,hp=>by simp only [AV.view]
 | .eptr _ _ _ _ _,h,hp=>by simp only [AV.view]
 | .iptr _ _,h,hp=>by simp only [AV.view]
 | .nilp,h,hp=>by simp only [AV.view]
 | .fn _ _ _,h,hp=>by simp only [AV.view]
 | .nilf,h,hp=>by simp only [AV.view]
 | .nili,h,hp=>by simp only [AV.view]
 | .mp _,h,hp=>by simp only [AV.view]
 | .nilm,h,hp=>by simp only [AV.view]
 | .anyp,h,hp=>by simp only [AV.view]
theorem views_clean {p:Loc→Bool}:∀ (v:List AV) (h:Heap),AV.refOks (fun _=>false) v=true→AV.views p v h=some (v,h)
 | [],h,hp=>by simp only [AV.views]
 | c :: cs,h,hp=>by
  simp only [AV.refOks,Bool.and_eq_true] at hp
  simp only [AV.views,view_clean c h hp.1,views_clean cs h hp.2]
end
theorem evQ_evM {K:Cfg} {O:Orc} {q:MOp} {e:Env} {h:Heap} {v:AV} (hq:evQ K O q e h=some v):evM K O q e h=some (.val v h):=by
 have key:∀ r:Option Out,outVal r=some v→(∀ u h',r=some (.val u h')→h'=h)→r=some (.val v h):=fun r h1 h2=>by
  cases r with
  | none=>cases h1
  | some r=>cases r with
   | val u h'=>simp only [outVal,Option.some.injEq] at h1;rw [h1,h2 u h' rfl]
   | pan u h'=>cases h1
 unfold evQ at hq
 split at hq
 ·refine key _ hq fun u h' hr=>?_
  simp only [evM] at hr
  split at hr
  ·simp only [Option.some.injEq,Out.val.injEq] at hr;exact hr.2.symm
  ·cases hr
 ·refine key _ hq fun u h' hr=>?_
  simp only [evM] at hr
  split at hr
  ·split at hr
   ·simp only [Option.some.injEq,Out.val.injEq] at hr;exact hr.2.symm
   ·cases hr
  ·cases hr
 ·refine key _ hq fun u h' hr=>?_
  simp only [evM] at hr
  split at hr
  ·simp only [Option.some.injEq,Out.val.injEq] at hr;exact hr.2.symm
  ·cases hr
 ·refine key _ hq fun u h' hr=>?_
  simp only [evM] at hr
  repeat' split at hr
  all_goals first | (cases hr;done) | (simp only [Option.some.injEq,Out.val.injEq] at hr;exact hr.2.symm)
 ·refine key _ hq fun u h' hr=>?_
  simp only [evM] at hr
  repeat' split at hr
  all_goals first | (cases hr;done) | (simp only [Option.some.injEq,Out.val.injEq] at hr;exact hr.2.symm)
 ·refine key _ hq fun u h' hr=>?_
  simp only [evM] at hr
  repeat' split at hr
  all_goals first | (cases hr;done) | (simp only [Option.some.injEq,Out.val.injEq] at hr;exact hr.2.symm)
 ·refine key _ hq fun u h' hr=>?_
  simp only [evM] at hr
  repeat' split at hr
  all_goals first | (cases hr;done) | (simp only [Option.some.injEq,Out.val.injEq] at hr;exact hr.2.symm)
 ·refine key _ hq fun u h' hr=>?_
  simp only [evM] at hr
  repeat' split at hr
  all_goals first | (cases hr;done) | (simp only [Option.some.injEq,Out.val.injEq] at hr;exact hr.2.symm)
 ·rename_i sz x lo hi mx
  have fin:∀ {r:Option Out} {u:AV} {h':Heap},r=some (.val u h')→(r=none∨∃ y,r=some (.val y h))→h'=h:=fun e1 e2=>by
   rcases e2 with e2 | ⟨y,e2⟩
   ·rw [e2] at e1;cases e1
   ·rw [e2] at e1;injection e1 with e1;injection e1 with _ e1;exact e1.symm
  have hx:∀ y,x.ev e=y→(y=.nils∨∃ es,y=.lst es)→∀ u h',evM K O (.slL sz x lo hi mx) e h=some (.val u h')→h'=h:=fun y e1 hy u h' hr=>by
   refine fin hr ?_
   rcases hy with rfl | ⟨es,rfl⟩<;>cases mx<;>simp only [evM,e1,AV.view]<;>repeat' split
   all_goals first | exact .inl rfl | exact .inr ⟨_,rfl⟩
  split at hq
  ·rename_i es he;exact key _ hq (hx _ he (.inr ⟨_,rfl⟩))
  ·rename_i he;exact key _ hq (hx _ he (.inl rfl))
  ·cases hq
 ·split at hq
  ·rename_i hp
   refine key _ hq fun u h' hr=>?_
   simp only [evM] at hr
   rw [views_clean _ h hp] at hr
   simp only [Bool.false_eq_true,if_false] at hr
   repeat' split at hr
   all_goals first | (cases hr;done) | skip
   all_goals simp only [Option.some.injEq,Out.val.injEq] at hr
   all_goals exact hr.2.symm
  ·cases hq
 ·cases hq
theorem evQ_mono {K:Cfg} {O O':Orc} (q:MOp) (e:Env) (h:Heap):evQ K O q e h=evQ K O' q e h:=by
 unfold evQ
 split<;>rfl
theorem op_pure {H:Hints} {f:FuncId} {o:Oper} {q:POp} {w:World} {G:Gm} {L:Loc→Prop} {e:Env} {a:Act} {v:AV} (hop:cOp P H f o=.p q) (r:EnvRel w G L e a) (hv:evP q e=some v)
  {Kp:Act→World→Prop} {Q:Exit→Act→World→Prop} (k:∀ x,VRel w G L v x→Kp (a.put o.dst x) w):Oper.wp P o a w Kp Q:=by
 obtain ⟨x,hx,hvx⟩:=pure_ok hop r hv
 unfold Oper.wp
 rw [hx]
 exact k x hvx
theorem op_val {O:Orc} (hO:FnSound P O) {H:Hints} {f:FuncId} {o:Oper} {q:MOp} (hop:cOp P H f o=.m q) {K:Cfg} {w:World} {G:Gm} {h h':Heap} {e:Env} {a:Act} {v:AV}
  (s:Sim w G h) (hn:h≠[]) (rr:EnvRel w G (dom h) e a) (hev:evM K O q e h=some (.val v h')) {Kp:Act→World→Prop} {Q:Exit→Act→World→Prop}
  (k:∀ x w' G',Sim w' G' h'→Goes w G h w' G' h'→VRel w' G' (dom h') v x→Kp (a.put o.dst x) w'):Oper.wp P o a w Kp Q:=by
 by_cases hcall:isCall q=true
 ·refine op_call hO hop hcall s rr hev fun en w' hen=>?_
  obtain ⟨G',l1,l2,x,rfl,l3⟩:=hen
  exact k x w' G' l1 l2 l3
 ·obtain ⟨nx,x,w',G',k1,k2,k3,k4,k5⟩:=mem_ok s hn hop rr (by simpa using hcall) hev
  unfold Oper.wp
  rw [k1]
  rcases k2 with rfl | ⟨rfl,rfl⟩
  ·exact k _ _ _ k3 k4 k5
  ·exact k _ _ _ k3 k4 k5
theorem op_pan {O:Orc} (hO:FnSound P O) {H:Hints} {f:FuncId} {o:Oper} {q:MOp} (hop:cOp P H f o=.m q) {K:Cfg} {w:World} {G:Gm} {h h':Heap} {e:Env} {a:Act} {v:AV}
  (s:Sim w G h) (rr:EnvRel w G (dom h) e a) (hev:evM K O q e h=some (.pan v h')) {Kp:Act→World→Prop} {Q:Exit→Act→World→Prop}
  (k:∀ x w' G',Sim w' G' h'→Goes w G h w' G' h'→VRel w' G' (dom h') v x→Q (.panic [{ v:=x,recovered:=false }]) a w'):Oper.wp P o a w Kp Q:=by
 by_cases hcall:isCall q=true
 ·refine op_call hO hop hcall s rr hev fun en w' hen=>?_
  obtain ⟨G',l1,l2,x,rfl,l3⟩:=hen
  exact k x w' G' l1 l2 l3
 ·have hp:∃ x y,o.op=.panic x∧cOpd x=some y∧q=.pan y:=by
   cases q<;>simp only [evM] at hev
   case pan y=>
    unfold cOp at hop
    cases ho:o.op with
    | panic x=>
     simp only [ho] at hop
     split at hop
     ·rename_i y' hy'
      injection hop with hop
      injection hop with e1
      subst e1
      exact ⟨x,y',rfl,hy',rfl⟩
     ·cases hop
    | _=>simp only [ho] at hop;repeat' (first | (cases hop;done) | split at hop)
   case call gf xs=>exact absurd rfl hcall
   case inv tbl x xs=>exact absurd rfl hcall
   all_goals repeat' (first | (cases hev;done) | split at hev | unfold appTo at hev | unfold ldQ at hev | unfold appToQ at hev | unfold toQ at hev | unfold appToV at hev | unfold toV at hev)
  obtain ⟨x,y,ho,hy,rfl⟩:=hp
  simp only [evM] at hev
  split at hev
  ·rename_i t u hyu
   injection hev with hev
   injection hev with e1 e2
   subst e1;subst e2
   obtain ⟨rv,k1,k2⟩:=m_pan (P:=P) rr ho hy hyu
   unfold Oper.wp
   rw [k1,Oper.upon_panic]
   exact k _ _ _ s (Goes.refl w G h) k2
  ·cases hev
def StepOK (K:Cfg) (O:Orc) (d:DO) (E:Env) (h:Heap) (v:AV) (h':Heap):Prop:=
  (wanted d.co.gd (keep d.looks E)=some false∧v=.tup []∧h'=h) ∨
  (wanted d.co.gd (keep d.looks E)=some true ∧
    ((∃ q, d.co.op=.p q∧evP q (keep d.looks E)=some v∧h'=h) ∨
     (∃ q, d.co.op=.m q∧quietM q=true∧evQ K O q (keep d.looks E) h=some v∧h'=h) ∨
     (∃ q, d.co.op=.m q∧quietM q=false∧evM K O q (keep d.looks E) h=some (.val v h'))))
structure Trace (K:Cfg) (O:Orc) (ds:List DO) (pd:Pend) (s:St) (ex:Ex) (s':St) (V:Nat→AV) (E:Nat→Env) (Hp:Nat→Heap) (m:Nat):Prop where
 le:m≤ds.length
 e0:E 0=s.env
 h0:Hp 0=s.h
 env:∀ k d,k < m→ds[k]?=some d→E (k+1)=put (E k) d.co.dst (V k)
 stp:∀ k d,k < m→ds[k]?=some d→StepOK K O d (E k) (Hp k) (V k) (Hp (k+1))
 pend:∀ k d,k < m→ds[k]?=some d→loud d.co=true→∀ x∈pd,x.1∈d.re→evQ K O x.2.1 x.2.2.1 (Hp (k+1))=some x.2.2.2
 again:∀ k d q,k < m→ds[k]?=some d→d.co.op=.m q→quietM q=true→wanted d.co.gd (keep d.looks (E k))=some true →
  ∀ j c,k < j→j < m→ds[j]?=some c→loud c.co=true→d.ix∈c.re→evQ K O q (keep d.looks (E k)) (Hp (j+1))=some (V k)
 fin:(ex=.norm∧m=ds.length∧s'={ env:=E m,h:=Hp m }) ∨
  ∃ d q v h,ds[m]?=some d∧wanted d.co.gd (keep d.looks (E m))=some true∧d.co.op=.m q∧quietM q=false∧evM K O q (keep d.looks (E m)) (Hp m)=some (.pan v h)∧ex=.pan v∧s'={ env:=[],h:=h }
def shiftN {α:Type} (x:α) (F:Nat→α):Nat→α
 | 0=>x
 | k+1=>F k
theorem recheck_mem {K:Cfg} {O:Orc} {re:List Nat} {pd:Pend} {h:Heap} (hr:recheck K O re pd h=true) {x:Nat×MOp×Env×AV} (hx:x∈pd) (hi:x.1∈re):evQ K O x.2.1 x.2.2.1 h=some x.2.2.2:=by
 unfold recheck at hr
 have:=List.all_eq_true.1 hr x hx
 simp only [Bool.or_eq_true,Bool.not_eq_true'] at this
 rcases this with h1 | h1
 ·have:re.contains x.1=true:=by simpa using hi
  rw [this] at h1;cases h1
 ·unfold same1 at h1
  split at h1
  ·rename_i u hu;rw [hu,AV.beq_eq _ _ h1]
  ·cases h1
theorem Trace.cons {K:Cfg} {O:Orc} {d:DO} {r:List DO} {pd pd':Pend} {s s1:St} {ex:Ex} {s':St} {V:Nat→AV} {E:Nat→Env} {Hp:Nat→Heap} {m:Nat} {v:AV}
  (t:Trace K O r pd' s1 ex s' V E Hp m) (he:s1.env=put s.env d.co.dst v) (hs:StepOK K O d s.env s.h v s1.h)
  (hp:loud d.co=true→∀ x∈pd,x.1∈d.re→evQ K O x.2.1 x.2.2.1 s1.h=some x.2.2.2)
  (hsub:∀ x∈pd,x∈pd')
  (hq:∀ q,d.co.op=.m q→quietM q=true→wanted d.co.gd (keep d.looks s.env)=some true→(d.ix,q,keep d.looks s.env,v)∈pd') :
  Trace K O (d :: r) pd s ex s' (shiftN v V) (shiftN s.env E) (shiftN s.h Hp) (m+1) where
 le:=by simpa using t.le
 e0:=rfl
 h0:=rfl
 env:=fun k c hk hc=>by
  cases k with
  | zero=>
   simp only [List.getElem?_cons_zero,Option.some.injEq] at hc
   subst hc
   simp only [shiftN,t.e0,he]
  | succ k=>simp only [shiftN];exact t.env k c (by omega) (by simpa using hc)
 stp:=fun k c hk hc=>by
  cases k with
  | zero=>
   simp only [List.getElem?_cons_zero,Option.some.injEq] at hc
   subst hc
   simp only [shiftN,t.h0];exact hs
  | succ k=>simp only [shiftN];exact t.stp k c (by omega) (by simpa using hc)
 pend:=fun k c hk hc hl x hx hi=>by
  cases k with
  | zero=>
   simp only [List.getElem?_cons_zero,Option.some.injEq] at hc
   subst hc
   simp only [shiftN,t.h0];exact hp hl x hx hi
  | succ k=>simp only [shiftN];exact t.pend k c (by omega) (by simpa using hc) hl x (hsub x hx) hi
 again:=fun k c q hk hc ho hqt hw j b hkj hj hb hl hi=>by
  cases j with
  | zero=>omega
  | succ j=>
   cases k with
   | zero=>
    simp only [List.getElem?_cons_zero,Option.some.injEq] at hc
    subst hc
    simp only [shiftN] at hw ⊢
    exact t.pend j b (by omega) (by simpa using hb) hl _ (hq q ho hqt hw) hi
   | succ k=>simp only [shiftN] at hw ⊢;exact t.again k c q (by omega) (by simpa using hc) ho hqt hw j b (by omega) (by omega) (by simpa using hb) hl hi
 fin:=by
  rcases t.fin with ⟨h1,h2,h3⟩ | ⟨c,q,u,h,h1,h2,h3,h4,h5,h6,h7⟩
  ·exact .inl ⟨h1,by simp [h2],h3⟩
  ·exact .inr ⟨c,q,u,h,by simpa using h1,h2,h3,h4,h5,h6,h7⟩
theorem evD_trace {K:Cfg} {O:Orc}:∀ (ds:List DO) (pd:Pend) (s:St) (ex:Ex) (s':St),evD K O ds pd s=some (ex,s')→∃ V E Hp m,Trace K O ds pd s ex s' V E Hp m
 | [],pd,s,ex,s',he=>by
  simp only [evD,Option.some.injEq,Prod.mk.injEq] at he
  obtain ⟨rfl,rfl⟩:=he
  exact ⟨fun _=>.top,fun _=>s.env,fun _=>s.h,0,{ le:=Nat.le_refl 0,e0:=rfl,h0:=rfl,env:=fun k _ hk=>absurd hk (Nat.not_lt_zero k),stp:=fun k _ hk=>absurd hk (Nat.not_lt_zero k),pend:=fun k _ hk=>absurd hk (Nat.not_lt_zero k),again:=fun k _ _ hk=>absurd hk (Nat.not_lt_zero k),fin:=.inl ⟨rfl,rfl,rfl⟩ }⟩
 | d :: r,pd,s,ex,s',he=>by
  simp only [evD] at he
  split at he
  ·cases he
  ·rename_i hw
   split at he
   ·cases he
   ·rename_i hre
    obtain ⟨V,E,Hp,m,t⟩:=evD_trace r pd _ ex s' he
    refine ⟨_,_,_,_,t.cons rfl (.inl ⟨hw,rfl,rfl⟩) (fun hl x hx hi=>?_) (fun x hx=>hx) (fun q _ _ hw'=>by rw [hw] at hw';cases hw')⟩
    cases hrc:recheck K O d.re pd s.h with
    | true=>exact recheck_mem hrc hx hi
    | false=>exact absurd ⟨hl,hrc⟩ hre
  ·rename_i hw
   split at he
   ·rename_i q hop
    split at he
    ·rename_i v hv
     obtain ⟨V,E,Hp,m,t⟩:=evD_trace r pd _ ex s' he
     exact ⟨_,_,_,_,t.cons rfl (.inr ⟨hw,.inl ⟨q,hop,hv,rfl⟩⟩) (fun hl=>by simp [loud,hop] at hl) (fun x hx=>hx) (fun q' h1=>by rw [hop] at h1;cases h1)⟩
    ·cases he
   ·rename_i q hop
    split at he
    ·rename_i hqt
     split at he
     ·rename_i v hv
      obtain ⟨V,E,Hp,m,t⟩:=evD_trace r _ _ ex s' he
      exact ⟨_,_,_,_,t.cons rfl (.inr ⟨hw,.inr (.inl ⟨q,hop,hqt,hv,rfl⟩)⟩) (fun hl=>by simp [loud,hop,hqt] at hl) (fun x hx=>List.mem_cons_of_mem _ hx)
       (fun q' h1 _ _=>by rw [hop] at h1;injection h1 with h1;subst h1;exact List.mem_cons_self ..)⟩
     ·cases he
    ·rename_i hqt
     have hqf:quietM q=false:=by simpa using hqt
     split at he
     ·rename_i v h hv
      split at he
      ·rename_i hrc
       obtain ⟨V,E,Hp,m,t⟩:=evD_trace r pd _ ex s' he
       exact ⟨_,_,_,_,t.cons rfl (.inr ⟨hw,.inr (.inr ⟨q,hop,hqf,hv⟩)⟩) (fun _ x hx hi=>recheck_mem hrc hx hi) (fun x hx=>hx)
        (fun q' h1 h2 _=>by rw [hop] at h1;injection h1 with h1;subst h1;rw [hqf] at h2;cases h2)⟩
      ·cases he
     ·rename_i v h hv
      simp only [Option.some.injEq,Prod.mk.injEq] at he
      obtain ⟨rfl,rfl⟩:=he
      exact ⟨fun _=>.top,fun _=>s.env,fun _=>s.h,0,{ le:=Nat.zero_le _,e0:=rfl,h0:=rfl,env:=fun k _ hk=>absurd hk (Nat.not_lt_zero k),stp:=fun k _ hk=>absurd hk (Nat.not_lt_zero k),pend:=fun k _ hk=>absurd hk (Nat.not_lt_zero k),again:=fun k _ _ hk=>absurd hk (Nat.not_lt_zero k),fin:=.inr ⟨d,q,v,h,by simp,hw,hop,hqf,hv,rfl,rfl⟩ }⟩
     ·cases he
   ·cases he
end Go.Ab
/-
  Regions that draw their order: whatever order is drawn.
-/
namespace Go.Ab
open Go.RowKit
variable {P:Program}
structure Fit (ops:Array Oper) (ds:List DO):Prop where
 op:∀ (k:Nat) (d:DO),ds[k]?=some d→∃ o:Oper,ops[d.ix]?=some o∧(∀ e∈o.after,Region.binds .any e=true→∃ (p:Nat) (c:DO),p < k∧ds[p]?=some c∧c.ix=e.on) ∧
  (∀ i∈d.anc,∃ e∈o.after,Region.binds .any e=true∧(e.on=i∨∃ (p:Nat) (c:DO),p < k∧ds[p]?=some c∧c.ix=e.on∧i∈c.anc))
 pair:∀ (p q:Nat) (c d:DO),p < q→ds[p]?=some c→ds[q]?=some d→pairOk d c=true
 al:∀ (p q k:Nat) (b c d:DO) (t:Nat),p < q→q < k→ds[p]?=some b→ds[q]?=some c→ds[k]?=some d→loud b.co=true→isAl c.co=true→c.co.dst=some t→t∈d.looks→b.ix∈d.anc
theorem Fit.snoc {ops:Array Oper} {l:List DO} {d:DO} {o:Oper} (h:Fit ops l) (ho:ops[d.ix]?=some o)
  (h1:∀ e∈o.after,Region.binds .any e=true→∃ c∈l,c.ix=e.on)
  (h2:∀ i∈d.anc,∃ e∈o.after,Region.binds .any e=true∧(e.on=i∨∃ c∈l,c.ix=e.on∧i∈c.anc))
  (h3:∀ c∈l,pairOk d c=true)
  (h4:∀ (p q:Nat) (b c:DO) (t:Nat),p < q→l[p]?=some b→l[q]?=some c→loud b.co=true→isAl c.co=true→c.co.dst=some t→t∈d.looks→b.ix∈d.anc):Fit ops (l++[d]):=by
 have pos:∀ c∈l,∃ p,p < l.length∧(l++[d])[p]?=some c:=fun c hc=>by
  obtain ⟨p,hp⟩:=List.getElem?_of_mem hc
  have hlt:=(List.getElem?_eq_some_iff.1 hp).1
  exact ⟨p,hlt,by rw [List.getElem?_append_left hlt];exact hp⟩
 refine ⟨fun k c hc=>?_,fun p q c b hpq hc hb=>?_,fun p q k b c x t hpq hqk hb hc hx hlb hal hct ht=>?_⟩
 ·by_cases hk:k < l.length
  ·rw [List.getElem?_append_left hk] at hc
   obtain ⟨o',k1,k2,k3⟩:=h.op k c hc
   refine ⟨o',k1,fun e he hb=>?_,fun i hi=>?_⟩
   ·obtain ⟨p,c',q1,q2,q3⟩:=k2 e he hb
    exact ⟨p,c',q1,by rw [List.getElem?_append_left (by omega)];exact q2,q3⟩
   ·obtain ⟨e,q1,q2,q3⟩:=k3 i hi
    refine ⟨e,q1,q2,q3.imp id ?_⟩
    rintro ⟨p,c',q1,q2,q3⟩
    exact ⟨p,c',q1,by rw [List.getElem?_append_left (by omega)];exact q2,q3⟩
  ·have hk':k=l.length:=by
    have:=(List.getElem?_eq_some_iff.1 hc).1
    simp at this;omega
   subst hk'
   simp at hc
   subst hc
   refine ⟨o,ho,fun e he hb=>?_,fun i hi=>?_⟩
   ·obtain ⟨c',q1,q2⟩:=h1 e he hb
    obtain ⟨p,q3,q4⟩:=pos c' q1
    exact ⟨p,c',q3,q4,q2⟩
   ·obtain ⟨e,q1,q2,q3⟩:=h2 i hi
    refine ⟨e,q1,q2,q3.imp id ?_⟩
    rintro ⟨c',q1,q2,q3⟩
    obtain ⟨p,q4,q5⟩:=pos c' q1
    exact ⟨p,c',q4,q5,q2,q3⟩
 ·by_cases hq:q < l.length
  ·rw [List.getElem?_append_left hq] at hb
   rw [List.getElem?_append_left (by omega)] at hc
   exact h.pair p q c b hpq hc hb
  ·have hq':q=l.length:=by
    have:=(List.getElem?_eq_some_iff.1 hb).1
    simp at this;omega
   subst hq'
   simp at hb
   subst hb
   rw [List.getElem?_append_left hpq] at hc
   exact h3 c (List.mem_of_getElem? hc)
 ·by_cases hk:k < l.length
  ·rw [List.getElem?_append_left hk] at hx
   rw [List.getElem?_append_left (by omega)] at hb hc
   exact h.al p q k b c x t hpq hqk hb hc hx hlb hal hct ht
  ·have hk':k=l.length:=by
    have:=(List.getElem?_eq_some_iff.1 hx).1
    simp at this;omega
   subst hk'
   simp at hx
   subst hx
   rw [List.getElem?_append_left (by omega)] at hb hc
   exact h4 p q b c t hpq hb hc hlb hal hct ht
theorem looksOk_at {d:DO}:∀ (seen:List DO),looksOk d seen=true→∀ (p q:Nat) (b c:DO) (t:Nat),p < q→seen.reverse[p]?=some b→seen.reverse[q]?=some c→loud b.co=true→isAl c.co=true→c.co.dst=some t→t∈d.looks→b.ix∈d.anc
 | [],_,p,q,b,c,t,hpq,hb,_,_,_,_,_=>by simp at hb
 | x :: r,h,p,q,b,c,t,hpq,hb,hc,hlb,hal,hct,ht=>by
  simp only [looksOk,Bool.and_eq_true] at h
  rw [List.reverse_cons] at hb hc
  have hq:=(List.getElem?_eq_some_iff.1 hc).1
  simp at hq
  rw [List.getElem?_append_left (by simp;omega)] at hb
  by_cases hqr:q < r.length
  ·rw [List.getElem?_append_left (by simpa using hqr)] at hc
   exact looksOk_at r h.2 p q b c t hpq hb hc hlb hal hct ht
  ·have hqe:q=r.reverse.length:=by simp;omega
   subst hqe
   simp at hc
   subst hc
   have h1:=h.1
   simp only [hal,hct,Bool.not_true,Bool.false_or,Bool.or_eq_true,Bool.not_eq_true',List.all_eq_true,List.contains_iff_mem] at h1
   rcases h1 with h1 | h1
   ·have:d.looks.contains t=true:=by simpa using ht
    rw [this] at h1;cases h1
   ·rcases h1 b (by simpa using List.mem_of_getElem? hb) with h2 | h2
    ·rw [hlb] at h2;cases h2
    ·exact h2
theorem okD_fit {ops:Array Oper}:∀ (ds seen:List DO),okD ops ds seen=true→Fit ops seen.reverse→Fit ops (seen.reverse++ds)∧∀ i,i < ops.size→∃ d∈seen.reverse++ds,d.ix=i
 | [],seen,h,hf=>by
  simp only [okD,List.all_eq_true,List.mem_range,List.any_eq_true,beq_iff_eq] at h
  refine ⟨by simpa using hf,fun i hi=>?_⟩
  obtain ⟨d,h1,h2⟩:=h i hi
  exact ⟨d,by simpa using h1,h2⟩
 | d :: r,seen,h,hf=>by
  simp only [okD] at h
  cases ho:ops[d.ix]? with
  | none=>rw [ho] at h;simp at h
  | some o=>
   rw [ho] at h
   simp only [Bool.and_eq_true,List.all_eq_true,List.any_eq_true,Bool.or_eq_true,Bool.not_eq_true',beq_iff_eq,List.contains_iff_mem] at h
   obtain ⟨⟨⟨h1,h2⟩,h3⟩,h5,h4⟩:=h
   have:=okD_fit r (d :: seen) h4 (by
    rw [List.reverse_cons]
    refine hf.snoc ho (fun e he hb=>?_) (fun i hi=>?_) (fun c hc=>h3 c (by simpa using hc)) (looksOk_at seen h5)
    ·rcases h1 e (by simpa using he) with h1 | ⟨c,h1,h5⟩
     ·rw [hb] at h1;cases h1
     ·exact ⟨c,by simpa using h1,h5⟩
    ·obtain ⟨e,k1,k2,k3⟩:=h2 i hi
     refine ⟨e,by simpa using k1,k2,k3.imp id ?_⟩
     rintro ⟨c,q1,q2,q3⟩
     exact ⟨c,by simpa using q1,q2,q3⟩)
   simpa using this
theorem pairOk_ix {d c:DO} (h:pairOk d c=true):c.ix≠d.ix:=by
 simp only [pairOk,Bool.and_eq_true,bne_iff_ne,ne_eq] at h
 exact h.1.1
theorem pairOk_dst {d c:DO} (h:pairOk d c=true) {t:Nat} (h1:c.co.dst=some t):d.co.dst≠some t:=fun h2=>by
 simp only [pairOk,Bool.and_eq_true,h1,h2,bne_iff_ne,ne_eq] at h
 exact h.2 trivial
theorem pairOk_looks {d c:DO} (h:pairOk d c=true) {t:Nat} (h1:c.co.dst=some t) (h2:t∈d.looks):c.ix∈d.anc:=by
 simp only [pairOk,Bool.and_eq_true,Bool.or_eq_true,h1,List.contains_iff_mem] at h
 rcases h.1.2 with h | h
 ·exact h
 ·have:=h.1.1.1
  simp [h2] at this
theorem pairOk_looked {d c:DO} (h:pairOk d c=true) {t:Nat} (h1:d.co.dst=some t) (h2:t∈c.looks):c.ix∈d.anc:=by
 simp only [pairOk,Bool.and_eq_true,Bool.or_eq_true,h1,List.contains_iff_mem] at h
 rcases h.1.2 with h | h
 ·exact h
 ·have:=h.1.1.2
  simp [h2] at this
theorem pairOk_loud {d c:DO} (h:pairOk d c=true) (h1:loud c.co=true):c.ix∈d.anc∨isAl d.co=true:=by
 simp only [pairOk,Bool.and_eq_true,Bool.or_eq_true,List.contains_iff_mem] at h
 rcases h.1.2 with h | h
 ·exact .inl h
 ·have:=h.1.2
  simp only [h1,Bool.not_true,Bool.false_eq_true,false_or] at this
  exact .inr this
theorem pairOk_re {d c:DO} (h:pairOk d c=true) (h1:loud d.co=true) (h2:quietC c.co=true) (h3:c.ix∉d.anc):c.ix∈d.re:=by
 simp only [pairOk,Bool.and_eq_true,Bool.or_eq_true,List.contains_iff_mem] at h
 rcases h.1.2 with h | h
 ·exact absurd h h3
 ·have:=h.2
  simpa [h1,h2] using this
theorem anc_closed {ops:Array Oper} {ds:List DO} (fit:Fit ops ds) {D:Nat→Prop} (clo:∀ (j:Nat) (o:Oper),ops[j]?=some o→D j→∀ e∈o.after,Region.binds .any e=true→D e.on) :
  ∀ (k:Nat) (d:DO),ds[k]?=some d→D d.ix→∀ i∈d.anc,D i:=by
 intro k
 induction k using Nat.strongRecOn with
 | ind k ih=>
  intro d hd hD i hi
  obtain ⟨o,ho,_,h2⟩:=fit.op k d hd
  obtain ⟨e,he,hb,h3⟩:=h2 i hi
  have hon:=clo _ o ho hD e he hb
  rcases h3 with rfl | ⟨p,c,h4,h5,h6,h7⟩
  ·exact hon
  ·exact ih p h4 c h5 (h6▸hon) i h7
section
variable {K:Cfg} {O:Orc} {ds:List DO} {st:St} {ex:Ex} {st':St} {V:Nat→AV} {E:Nat→Env} {Hp:Nat→Heap} {m:Nat} {ops:Array Oper}
theorem Trace.write (T:Trace K O ds [] st ex st' V E Hp m) (fit:Fit ops ds) {p:Nat} {c:DO} (hc:ds[p]?=some c) {t:Nat} (ht:c.co.dst=some t):∀ k,p < k→k≤m→get (E k) t=V p
 | 0,h,_=>by omega
 | k+1,h,hk=>by
  have hlt:k < ds.length:=by have:=T.le;omega
  obtain ⟨d,hd⟩:∃ d,ds[k]?=some d:=⟨ds[k],List.getElem?_eq_getElem hlt⟩
  rw [T.env k d (by omega) hd]
  by_cases hpk:p=k
  ·subst hpk
   rw [hc] at hd
   injection hd with hd
   subst hd
   simp only [put,ht,get_set,if_true]
  ·have hne:=pairOk_dst (fit.pair p k c d (by omega) hc hd) ht
   have:=T.write fit hc ht k (by omega) (by omega)
   cases hdd:d.co.dst with
   | none=>simpa [put] using this
   | some u=>
    simp only [put,get_set]
    rw [if_neg (fun e=>hne (by rw [hdd,e]))]
    exact this
theorem Trace.still (T:Trace K O ds [] st ex st' V E Hp m) {t:Nat}:∀ k,k≤m→(∀ (p:Nat) (c:DO),p < k→ds[p]?=some c→c.co.dst≠some t)→get (E k) t=get st.env t
 | 0,_,_=>by rw [T.e0]
 | k+1,hk,h=>by
  have hlt:k < ds.length:=by have:=T.le;omega
  obtain ⟨d,hd⟩:∃ d,ds[k]?=some d:=⟨ds[k],List.getElem?_eq_getElem hlt⟩
  rw [T.env k d (by omega) hd]
  have hne:=h k d (by omega) hd
  have:=T.still k (by omega) fun p c hp hc=>h p c (by omega) hc
  cases hdd:d.co.dst with
  | none=>simpa [put] using this
  | some u=>
   simp only [put,get_set]
   rw [if_neg (fun e=>hne (by rw [hdd,e]))]
   exact this
theorem StepOK.heap {d:DO} {e:Env} {h h':Heap} {v:AV} (s:StepOK K O d e h v h') (hl:loud d.co=false):h'=h:=by
 rcases s with ⟨_,_,h1⟩ | ⟨_,⟨q,_,_,h1⟩ | ⟨q,_,_,_,h1⟩ | ⟨q,h1,h2,_⟩⟩
 ·exact h1
 ·exact h1
 ·exact h1
 ·simp [loud,h1,h2] at hl
theorem Trace.heap (T:Trace K O ds [] st ex st' V E Hp m) {k:Nat}:∀ j,k≤j→j≤m→(∀ (i:Nat) (d:DO),k≤i→i < j→ds[i]?=some d→loud d.co=false)→Hp j=Hp k
 | 0,h,_,_=>by rw [show k=0 by omega]
 | j+1,h,hm,hl=>by
  by_cases hk:k=j+1
  ·rw [hk]
  ·have hlt:j < ds.length:=by have:=T.le;omega
   obtain ⟨d,hd⟩:∃ d,ds[j]?=some d:=⟨ds[j],List.getElem?_eq_getElem hlt⟩
   rw [(T.stp j d (by omega) hd).heap (hl j d (by omega) (by omega) hd)]
   exact T.heap j (by omega) (by omega) fun i d h1 h2=>hl i d h1 (by omega)
theorem Trace.later (T:Trace K O ds [] st ex st' V E Hp m) {k:Nat} {d:DO} {q:MOp} (hd:ds[k]?=some d) (hkm:k < m) (ho:d.co.op=.m q) (hq:quietM q=true)
  (hw:wanted d.co.gd (keep d.looks (E k))=some true):∀ j,k≤j→j≤m→(∀ (i:Nat) (c:DO),k < i→i < j→ds[i]?=some c→loud c.co=true→d.ix∈c.re)→evQ K O q (keep d.looks (E k)) (Hp j)=some (V k)
 | 0,h,hm,hl=>by
  have hk0:k=0:=by omega
  subst hk0
  rcases T.stp 0 d hkm hd with ⟨h1,_,_⟩ | ⟨_,⟨q',h1,_,_⟩ | ⟨q',h1,_,h3,_⟩ | ⟨q',h1,h2,_⟩⟩
  ·rw [hw] at h1;cases h1
  ·rw [ho] at h1;cases h1
  ·rw [ho] at h1;injection h1 with h1;subst h1;exact h3
  ·rw [ho] at h1;injection h1 with h1;subst h1;rw [hq] at h2;cases h2
 | j+1,h,hm,hl=>by
  by_cases hk:k=j+1
  ·subst hk
   rcases T.stp _ d hkm hd with ⟨h1,_,_⟩ | ⟨_,⟨q',h1,_,_⟩ | ⟨q',h1,_,h3,_⟩ | ⟨q',h1,h2,_⟩⟩
   ·rw [hw] at h1;cases h1
   ·rw [ho] at h1;cases h1
   ·rw [ho] at h1;injection h1 with h1;subst h1;exact h3
   ·rw [ho] at h1;injection h1 with h1;subst h1;rw [hq] at h2;cases h2
  ·have hlt:j < ds.length:=by have:=T.le;omega
   obtain ⟨c,hc⟩:∃ c,ds[j]?=some c:=⟨ds[j],List.getElem?_eq_getElem hlt⟩
   by_cases hlo:loud c.co=true
   ·by_cases hkj:k=j
    ·subst hkj
     rw [hd] at hc
     injection hc with hc
     subst hc
     simp [loud,ho,hq] at hlo
    ·exact T.again k d q hkm hd ho hq hw j c (by omega) (by omega) hc hlo (hl j c (by omega) (by omega) hc hlo)
   ·rw [(T.stp j c (by omega) hc).heap (by simpa using hlo)]
    exact T.later hd hkm ho hq hw j (by omega) (by omega) fun i c h1 h2=>hl i c h1 (by omega)
end
end Go.Ab
