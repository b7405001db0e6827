import Derived.Test.YtbkmdnmncaakdaaGreatPbHa
set_option linter.unusedVariables false
set_option linter.unusedSimpArgs false
set_option maxRecDepth 20000
namespace Go.Proofs.YtbkmdnmncaakdaaGreat
open Go Go.Zf
open Go.Zf (wi64)
structure Kd (D:Nat→Prop) (h0:H) (c m:Nat) (st:St) (h:H):Prop where
 co:CoderAt (grow D h0 h) h c m st
 md:Mod D h0 h
theorem Kd.ext {D:Nat→Prop} {h0:H} {c m:Nat} {st:St} {h h':H} (a:Kd D h0 c m st h) (x:Ext h h'):Kd D h0 c m st h' :=
 ⟨(
  a.co.keep x.n fun b _ hb=>x.get b hb).mono fun b hb hd=>by
  have:=x.n
  rcases hd with hd | hd
  ·exact .inl hd
  ·exact .inr ⟨hd.1,hb⟩,a.md.tr (Mod.of x)⟩
theorem Kd.step {D:Nat→Prop} {h0:H} {c m m':Nat} {st st':St} {h h':H} (a:Kd D h0 c m st h) (co:CoderAt (grow (grow D h0 h) h h') h' c m' st') (md:Mod (grow D h0 h) h h'):Kd D h0 c m' st' h' :=
 ⟨co.mono fun b hb hd=>by
  have:=a.md.n
  rcases hd with (hd | hd) | hd
  ·exact .inl hd
  ·exact .inr ⟨hd.1,by have:=md.n;omega⟩
  ·exact .inr ⟨by omega,hd.2⟩,a.md.trans md⟩
theorem Kd.of {D:Nat→Prop} {h:H} {c m:Nat} {st:St} (a:CoderAt D h c m st):Kd D h c m st h:=⟨a.mono fun b _ hd=>.inl hd,Mod.refl _ _⟩
theorem Kd.more {D:Nat→Prop} {h0:H} {c m m':Nat} {st:St} {h:H} (a:Kd D h0 c m st h) (hm:m≤m') (hm':m' < 100000000):Kd D h0 c m' st h:=⟨a.co.more hm hm',a.md⟩
theorem Kd.grid {D:Nat→Prop} {h0:H} {c m:Nat} {st:St} {h:H} (a:Kd D h0 c m st h) {Dg:Nat→Prop} {g:Nat} {G:Gr} (ga:GridAt Dg h0 g G) (dis:∀ b,Dg b→¬ D b):GridAt Dg h g G :=
 ga.keep a.md.n fun b hb=>a.md.get b (ga.hD b hb) (dis b hb)
theorem Kd.dis {D Dg:Nat→Prop} {h0 h:H} (hg:∀ b,Dg b→b < h0.n) (dis:∀ b,Dg b→¬ D b):∀ b,Dg b→¬ grow D h0 h b:=by
 rintro b hb (hd | hd)
 ·exact dis b hb hd
 ·have:=hg b hb;omega
def pkd (s:Int):Nat:=if s=16 then 1 else 0
def pcx (G:Gr) (x y s:Int):Nat:=parN G x y s+if s=32 then 4 else 0
theorem pkd_ok (s:Int):pkd s < 32∧vl (pkd s)=(if s=16 then 8 else 10):=by
 unfold pkd;split <;> exact ⟨by decide,rfl⟩
theorem pcx_ok (G:Gr) (x y s:Int):pcx G x y s < cx (pkd s):=by
 have:=parN_le G x y s
 unfold pcx pkd
 by_cases h:s=16
 ·rw [if_pos h,if_neg (by omega)];show _ < 4;omega
 ·rw [if_neg h];show _ < 8;split <;> omega
def ParMay (wr:Bool) (x y s kind:Int):Prop:=PartB x y s∧(wr=true→0≤kind∧kind < vl (pkd s))
def PEnd (D:Nat→Prop) (h:H) (c m:Nat) (st:St) (G:Gr) (x y s kind:Int) (w:V) (h':H):Prop :=
 (ParMay st.sd.writes x y s kind→w=.tup [.int .i64 (st.symV (pkd s) (pcx G x y s) kind:Nat),.int .i64 0]∧Kd D h c (m+1) (st.sym (pkd s) (pcx G x y s) kind) h') ∧
 (¬ ParMay st.sd.writes x y s kind→w=.tup [.int .i64 0,.int .i64 2]∧Kd D h c m st h')
theorem part11_ok {D:Nat→Prop} {h:H} {c m:Nat} {st:St} (C:CoderAt D h c m st) (hD:∀ b,D b→b < h.n) {Dg:Nat→Prop} {g:Nat} {G:Gr} (ga:GridAt Dg h g G) (dis:∀ b,Dg b→¬ D b) {x y s kind:Int} (hx:I64 x) (hy:I64 y) (hm:m+1 < 100000000) :
  RT (fun w h'=>PEnd D h c m st G x y s kind w h') (KW 11 [.ptr c 0,.ptr g 0,.agg [.int .i64 x,.int .i64 y,.int .i64 s,.int .i64 s],.int .i64 kind] h):=by
 obtain ⟨h1,hh1⟩:∃ z,z=h.new (.cells [.int .i64 x,.int .i64 y,.int .i64 s,.int .i64 s] 36 false):=⟨_,rfl⟩
 have x1:Ext h h1:=by rw [hh1];exact (Ext.refl h).new _
 have n1:h1.n=h.n+1:=by rw [hh1,H.n_new]
 have g1:h1.get h.n=some (.cells [.int .i64 x,.int .i64 y,.int .i64 s,.int .i64 s] 36 false):=by rw [hh1,get_new_same]
 have K1:=(Kd.of C).ext x1
 have nd:¬ D h.n:=fun hd=>by have:=hD _ hd;omega
 obtain ⟨_,h2,a2,rfl,C2,M2⟩:=(there24_ok (C.keep x1.n fun b _ hb=>x1.get b hb) (by omega) (ga.ext x1) dis).elim
 have K2:Kd D h c m st h2:=⟨C2.mono fun b hb hd=>by
  rcases hd with hd | hd
  ·exact .inl hd
  ·exact .inr ⟨by omega,hb⟩,(Mod.of x1).tr M2⟩
 have M2n:=M2.n
 have g2:h2.get h.n=_:=(M2.get _ (by omega) nd).trans g1
 have ga2:=K2.grid ga dis
 have r0:=rd1_of (o:=0) g2
 have r1:=rd1_of (o:=1) g2
 have r2:=rd1_of (o:=2) g2
 obtain ⟨_,h3,a3,rfl,x3⟩:=(gpart_ok ga2 (s:=s) hx hy).elim
 have g3:h3.get h.n=_:=(x3.get _ (by have:=M2.n;omega)).trans g2
 have r2':=rd1_of (o:=2) g3
 have r3':=rd1_of (o:=3) g3
 have K3:=K2.ext x3
 obtain ⟨Q,hQ⟩:∃ Q:V→H→Prop,Q=fun w h'=>PEnd D h c m st G x y s kind w h':=⟨_,rfl⟩
 rw [← hQ]
 rw [w11,f11,s11]
 by_cases p:PartB x y s
 ·rw [if_pos p] at a3
  obtain ⟨n,hn⟩:∃ n,n=parN G x y s:=⟨_,rfl⟩
  have n4:n < 4:=by rw [hn];exact parN_le _ _ _ _
  have hpc:pcx G x y s=n+if s=32 then 4 else 0:=by rw [hn];rfl
  rw [← hn] at a3
  have wr3:=writes26_ok K3.co
  have pk:=pkd_ok s
  have pc:=pcx_ok G x y s
  have z4:IntKind.i64.wrap ((n:Int)+4)=((n+4:Nat):Int):=by rw [wi64 (by omega) (by omega)];omega
  have zm:IntKind.i64.wrap 9=9∧IntKind.i64.wrap 7=7:=⟨rfl,rfl⟩
  -- the last call
  have last:∀ (pm:ParMay st.sd.writes x y s kind),∃ v h',KW 44 [.ptr c 0,.int .i64 (pkd s:Nat),.int .i64 (pcx G x y s:Nat),.int .i64 kind] h3=some (.ret (.tup [v,.int .i64 0]),h')∧Q (.tup [v,.int .i64 0]) h':=fun pm=>by
   obtain ⟨w,h',e,rfl,co,md⟩:=(symbol30_ok K3.co hm pk.1 pc pm.2).elim
   exact ⟨_,h',e,by rw [hQ];exact ⟨fun _=>⟨rfl,K3.step co md⟩,fun np=>(np pm).elim⟩⟩
  have bad:¬ ParMay st.sd.writes x y s kind→Q (.tup [.int .i64 0,.int .i64 2]) h3:=fun np=>by
   rw [hQ];exact ⟨fun pm=>(np pm).elim,fun _=>⟨rfl,K3⟩⟩
  rw [hpc] at last
  unfold ParMay at last bad
  rw [pk.2] at last bad
  cases hw:st.sd.writes with
  | false =>
   rw [hw] at last wr3
   obtain ⟨v,h4,a4,q⟩:=last ⟨p,fun h=>by cases h⟩
   rcases p.1 with rfl | rfl | rfl <;> simp [pkd,-Int.natCast_add] at a4 <;> simp [bx,← hh1,a2,r0,r1,r2,a3,r2',r3',z4,wr3,a4,-Int.natCast_add] <;> exact q
  | true =>
   rw [hw] at last bad wr3
   have ew:=fun m=>within54_ok kind 0 m h3
   by_cases k:0≤kind∧kind < if s=16 then 8 else 10
   ·obtain ⟨v,h4,a4,q⟩:=last ⟨p,fun _=>⟨k.1,by have:=k.2;split at this <;> split <;> omega⟩⟩
    rcases p.1 with rfl | rfl | rfl
    ·simp at k
     have k':¬ (kind < 0∨9 < kind):=by omega
     simp [pkd,-Int.natCast_add] at a4
     simp [bx,← hh1,a2,r0,r1,r2,a3,r2',r3',z4,zm,ew,k',wr3,a4,-Int.natCast_add]
     exact q
    ·simp at k
     have k':¬ (kind < 0∨9 < kind):=by omega
     simp [pkd,-Int.natCast_add] at a4
     simp [bx,← hh1,a2,r0,r1,r2,a3,r2',r3',z4,zm,ew,k',wr3,a4,-Int.natCast_add]
     exact q
    ·simp at k
     have k':¬ (kind < 0∨7 < kind):=by omega
     simp [pkd,-Int.natCast_add] at a4
     simp [bx,← hh1,a2,r0,r1,r2,a3,r2',r3',z4,zm,ew,k',wr3,a4,-Int.natCast_add]
     exact q
   ·have q:=bad fun h=>k ⟨(h.2 rfl).1,by have:=(h.2 rfl).2;split at this <;> split <;> omega⟩
    rcases p.1 with rfl | rfl | rfl
    ·simp at k
     have k':kind < 0∨9 < kind:=by omega
     simp [bx,← hh1,a2,r0,r1,r2,a3,r2',r3',z4,zm,ew,k',wr3,-Int.natCast_add]
     exact q
    ·simp at k
     have k':kind < 0∨9 < kind:=by omega
     simp [bx,← hh1,a2,r0,r1,r2,a3,r2',r3',z4,zm,ew,k',wr3,-Int.natCast_add]
     exact q
    ·simp at k
     have k':kind < 0∨7 < kind:=by omega
     simp [bx,← hh1,a2,r0,r1,r2,a3,r2',r3',z4,zm,ew,k',wr3,-Int.natCast_add]
     exact q
 ·rw [if_neg p] at a3
  simp [bx,← hh1,a2,r0,r1,r2,a3]
  rw [hQ]
  exact ⟨fun pm=>(p pm.1).elim,fun _=>⟨rfl,K3⟩⟩
end Go.Proofs.YtbkmdnmncaakdaaGreat
