import Derived.Test.YtbkmdnmncaakdaaGreatPbHc
set_option linter.unusedVariables false
set_option linter.unusedSimpArgs false
set_option maxRecDepth 20000
namespace Go.Proofs.YtbkmdnmncaakdaaGreat
open Go Go.Zf
open Go.Zf (wi64)
open Pr (Rd)
structure Duo (D0 F:Nat→Prop) (hS:H) (c g m:Nat) (st:St) (G:Gr) (h:H):Prop where
 md:Mod D0 hS h
 ex:∃ Dc Dg,CoderAt Dc h c m st∧GridAt Dg h g G∧(∀ b,Dc b→b < h.n∧grow D0 hS h b)∧(∀ b,Dg b→grow D0 hS h b)∧(∀ b,Dg b→¬ Dc b)∧(∀ b,F b→b < h.n∧hS.n≤b∧¬ Dc b∧¬ Dg b)
theorem grow_up {D0:Nat→Prop} {hS h h':H} (hn:h.n≤h'.n) {b:Nat} (a:grow D0 hS h b):grow D0 hS h' b:=a.imp id fun x=>⟨x.1,by omega⟩
theorem Duo.keep {D0 F F':Nat→Prop} {hS:H} {c g m:Nat} {st:St} {G:Gr} {h h':H} (a:Duo D0 F hS c g m st G h) (hn:h.n≤h'.n) (hk:∀ b,b < h.n→¬ F b→h'.get b=h.get b) (hF:∀ b,F' b→F b∨(h.n≤b∧b < h'.n)):Duo D0 F' hS c g m st G h':=by
 obtain ⟨md,Dc,Dg,C,ga,d1,d2,d3,d4⟩:=a
 have mn:=md.n
 exact ⟨⟨by omega,fun b hb hd=>by rw [hk b (by omega) fun f=>by have:=d4 b f;omega,md.get b hb hd]⟩,Dc,Dg,C.keep hn fun b hb hb2=>hk b hb2 fun f=>(d4 b f).2.2.1 hb,ga.keep hn fun b hb=>hk b (ga.hD b hb) fun f=>(d4 b f).2.2.2 hb,
  fun b hb=>⟨by have:=d1 b hb;omega,grow_up hn (d1 b hb).2⟩,fun b hb=>grow_up hn (d2 b hb),d3,fun b hb=>by
   rcases hF b hb with hb | hb
   ·have:=d4 b hb;exact ⟨by omega,this.2⟩
   ·exact ⟨hb.2,by omega,fun hd=>by have:=d1 b hd;omega,fun hd=>by have:=ga.hD b hd;omega⟩⟩
theorem Duo.ext {D0 F:Nat→Prop} {hS:H} {c g m:Nat} {st:St} {G:Gr} {h h':H} (a:Duo D0 F hS c g m st G h) (x:Ext h h'):Duo D0 F hS c g m st G h':=a.keep x.n (fun b hb _=>x.get b hb) fun b hb=>.inl hb
theorem Duo.new {D0 F:Nat→Prop} {hS:H} {c g m:Nat} {st:St} {G:Gr} {h:H} (a:Duo D0 F hS c g m st G h) (x:Blk):Duo D0 (fun b=>F b∨b=h.n) hS c g m st G (h.new x) :=
 a.keep (by rw [H.n_new];omega) (fun b hb _=>get_new_lt hb) fun b hb=>hb.imp id fun e=>⟨by omega,by rw [H.n_new];omega⟩
theorem Duo.sub {D0 F F':Nat→Prop} {hS:H} {c g m:Nat} {st:St} {G:Gr} {h:H} (a:Duo D0 F hS c g m st G h) (hF:∀ b,F' b→F b):Duo D0 F' hS c g m st G h:=a.keep (Nat.le_refl _) (fun _ _ _=>rfl) fun b hb=>.inl (hF b hb)
theorem Duo.count {D0 F:Nat→Prop} {hS:H} {c g m:Nat} {st:St} {G:Gr} {h:H} (a:Duo D0 F hS c g m st G h):KW 12 [.ptr c 0] h=some (.ret (.int .i64 st.n),h):=by
 obtain ⟨md,Dc,Dg,C,_⟩:=a
 exact count32_ok C
theorem Duo.nb {D0 F:Nat→Prop} {hS:H} {c g m:Nat} {st:St} {G:Gr} {h:H} (a:Duo D0 F hS c g m st G h):0≤st.n∧st.n≤100*m∧SetOk st.S:=by
 obtain ⟨md,Dc,Dg,C,_⟩:=a
 exact ⟨by have:=C.ok.2.2;omega,by have:=C.ok.2.2;omega,C.ok.1⟩
theorem Duo.coded {D0 F:Nat→Prop} {hS:H} {c g:Nat} {G:Gr} {h:H} {Dc Dg:Nat→Prop} (md:Mod D0 hS h) (C:∀ b,Dc b→b < h.n∧grow D0 hS h b) (ga:GridAt Dg h g G) (d2:∀ b,Dg b→grow D0 hS h b) (d3:∀ b,Dg b→¬ Dc b) (d4:∀ b,F b→b < h.n∧hS.n≤b∧¬ Dc b∧¬ Dg b)
  {h':H} {m':Nat} {st':St} (K:Kd Dc h c m' st' h'):Duo D0 F hS c g m' st' G h'∧∀ b,F b→h'.get b=h.get b:=by
 have hn:=K.md.n
 refine ⟨⟨⟨by have:=md.n;omega,fun b hb hd=>by
  have:=md.n
  rw [K.md.get b (by omega) (fun hc=>by rcases (C b hc).2 with h1 | h1;exact hd h1;omega),md.get b hb hd]⟩,grow Dc h h',Dg,K.co,K.grid ga d3,?_,fun b hb=>grow_up hn (d2 b hb),Kd.dis ga.hD d3,?_⟩,fun b hb=>K.md.get b (d4 b hb).1 (d4 b hb).2.2.1⟩
 ·rintro b (hb | hb)
  ·have:=C b hb;exact ⟨by omega,grow_up hn this.2⟩
  ·exact ⟨hb.2,.inr ⟨by have:=md.n;omega,hb.2⟩⟩
 ·intro b hb
  have:=d4 b hb
  refine ⟨by omega,this.2.1,?_,this.2.2.2⟩
  rintro (hd | hd)
  ·exact this.2.2.1 hd
  ·omega
theorem Duo.put {D0 F:Nat→Prop} {hS:H} {c g m:Nat} {st:St} {G:Gr} {h:H} (a:Duo D0 F hS c g m st G h) {b:Bk} (sh:ShapeB b) (hv:vecB b.m0∧vecB b.m1) (hn:G.bs.length < 100000) :
  RT (fun w h'=>w=.int .i64 (putP G b).2∧Duo D0 F hS c g m st (putP G b).1 h'∧∀ b,F b→h'.get b=h.get b) (KW 15 [.ptr g 0,b.v] h):=by
 obtain ⟨md,Dc,Dg,C,ga,d1,d2,d3,d4⟩:=a
 refine (gput12_ok ga sh hv hn).mono fun w h' ⟨e,g',M⟩=>⟨e,⟨?_,Dc,grow Dg h h',?_,g',?_,?_,?_,?_⟩,fun b hb=>M.get b (d4 b hb).1 (d4 b hb).2.2.2⟩
 all_goals have mn:=M.n
 all_goals have mm:=md.n
 ·exact ⟨by omega,fun b hb hd=>by rw [M.get b (by omega) (fun hg=>by rcases d2 b hg with h1 | h1;exact hd h1;omega),md.get b hb hd]⟩
 ·exact C.keep M.n fun b hb hb2=>M.get b hb2 fun hg=>d3 b hg hb
 ·exact fun b hb=>⟨by have:=d1 b hb;omega,grow_up M.n (d1 b hb).2⟩
 ·rintro b (hb | hb)
  ·exact grow_up M.n (d2 b hb)
  ·exact .inr ⟨by omega,hb.2⟩
 ·rintro b (hb | hb) hc
  ·exact d3 b hb hc
  ·have:=d1 b hc;omega
 ·intro b hb
  have:=d4 b hb
  refine ⟨by omega,this.2.1,this.2.2.1,?_⟩
  rintro (hd | hd)
  ·exact this.2.2.2 hd
  ·omega
theorem Duo.part {D0 F:Nat→Prop} {hS:H} {c g m:Nat} {st:St} {G:Gr} {h:H} (a:Duo D0 F hS c g m st G h) {x y s kind:Int} (hx:I64 x) (hy:I64 y) (hm:m+1 < 100000000) :
  RT (fun w h'=>((ParMay st.sd.writes x y s kind∧w=.tup [.int .i64 (st.symV (pkd s) (pcx G x y s) kind:Nat),.int .i64 0]∧Duo D0 F hS c g (m+1) (st.sym (pkd s) (pcx G x y s) kind) G h') ∨
   (¬ ParMay st.sd.writes x y s kind∧w=.tup [.int .i64 0,.int .i64 2]∧Duo D0 F hS c g m st G h'))∧∀ b,F b→h'.get b=h.get b) (KW 11 [.ptr c 0,.ptr g 0,.agg [.int .i64 x,.int .i64 y,.int .i64 s,.int .i64 s],.int .i64 kind] h):=by
 obtain ⟨md,Dc,Dg,C,ga,d1,d2,d3,d4⟩:=a
 refine (part11_ok C (fun b hb=>(d1 b hb).1) ga d3 (s:=s) (kind:=kind) hx hy hm).mono fun w h' ⟨p1,p2⟩=>?_
 by_cases p:ParMay st.sd.writes x y s kind
 ·obtain ⟨e,K⟩:=p1 p
  obtain ⟨k1,k2⟩:=Duo.coded md d1 ga d2 d3 d4 K
  exact ⟨.inl ⟨p,e,k1⟩,k2⟩
 ·obtain ⟨e,K⟩:=p2 p
  obtain ⟨k1,k2⟩:=Duo.coded md d1 ga d2 d3 d4 K
  exact ⟨.inr ⟨p,e,k1⟩,k2⟩
theorem Duo.code_w {D0 F:Nat→Prop} {hS:H} {c g m:Nat} {st:St} {G:Gr} {h:H} (a:Duo D0 F hS c g m st G h) {s:Sr} (hsd:st.sd=wS s) (ok:SOk s) {b:Bk} (hx:I64 b.x) (hy:I64 b.y) (hm:m+72 < 100000000) {key ll:Bool} :
  RT (fun w h'=>((∃ l,InG G b∧MayB key ll b∧(blkP true key ll G b).ech=(some b,l)∧Rd (blkP false key ll G b) (some b) l∧w=.tup [b.v,.int .i64 0]∧Duo D0 F hS c g (m+72) (st.run l) G h') ∨
   (w=.tup [bkZ.v,.int .i64 2]∧Duo D0 F hS c g m st G h'))∧∀ b,F b→h'.get b=h.get b) (KW 13 [.ptr c 0,.ptr g 0,b.v,.bool key,.bool ll] h):=by
 obtain ⟨md,Dc,Dg,C,ga,d1,d2,d3,d4⟩:=a
 by_cases p:InG G b∧MayB key ll b∧AgreeB (vsOf G b) b
 ·obtain ⟨ig,mb,ag⟩:=p
  obtain ⟨l,he,hr⟩:=blk_ops ga.ok mb ag
  refine (Go.Proofs.YtbkmdnmncaakdaaGreat.code_w C (fun b hb=>(d1 b hb).1) hsd ok ga d3 ig hm mb ag he hr.ok).mono fun w h' ⟨e,co,M⟩=>?_
  obtain ⟨k1,k2⟩:=Duo.coded md d1 ga d2 d3 d4 ⟨co,M⟩
  exact ⟨.inl ⟨l,ig,mb,he,hr,e,k1⟩,k2⟩
 ·refine (code13_no C (fun b hb=>(d1 b hb).1) ga d3 hx hy (by omega) (fun q=>p ⟨q.1,q.2 (by rw [hsd];rfl)⟩)).mono fun w h' ⟨e,K⟩=>?_
  obtain ⟨k1,k2⟩:=Duo.coded md d1 ga d2 d3 d4 K
  exact ⟨.inr ⟨e,k1⟩,k2⟩
theorem Duo.code_m {D0 F:Nat→Prop} {hS:H} {c g m:Nat} {st:St} {G:Gr} {h:H} {s s' T:Sr} (hT:SOk T) (hsd:st.sd=wS s) (ok:SOk s) (so:SetOk st.S) (a:Duo D0 F hS c g m (mateS (bytes T.1 T.2.1) s st) G h) {b r:Bk} (ig:InG G b) (hm:m+72 < 100000000) {key ll:Bool} (hr:shapeB b=shapeB r) {l:List Op} (he:Rd (blkP false key ll G r) (some r) l) (h1:(st.run l).sd=wS s') (h2:WithinS s' T) :
  RT (fun w h'=>w=.tup [r.v,.int .i64 0]∧Duo D0 F hS c g (m+72) (mateS (bytes T.1 T.2.1) s' (st.run l)) G h'∧∀ b,F b→h'.get b=h.get b) (KW 13 [.ptr c 0,.ptr g 0,b.v,.bool key,.bool ll] h):=by
 obtain ⟨md,Dc,Dg,C,ga,d1,d2,d3,d4⟩:=a
 refine (Go.Proofs.YtbkmdnmncaakdaaGreat.code_m hT hsd ok so C (fun b hb=>(d1 b hb).1) ga d3 ig hm hr he h1 h2).mono fun w h' ⟨e,co,M⟩=>?_
 obtain ⟨k1,k2⟩:=Duo.coded md d1 ga d2 d3 d4 ⟨co,M⟩
 exact ⟨e,k1,k2⟩
structure Dq where
 b:Bk
 part:Bool
 side:Int
 kind:Int
def Dq.cs (d:Dq):List V:=d.b.cs ++ [.bool d.part,.int .i64 d.side,.int .i64 d.kind]
def dqZ:Dq:=⟨bkZ,false,0,0⟩
@[simp] theorem dcs_len (d:Dq):d.cs.length=26:=id rfl
@[simp] theorem dcs0 (d:Dq):d.cs[0]?=some (.int .i64 d.b.x):=id rfl
@[simp] theorem dcs1 (d:Dq):d.cs[1]?=some (.int .i64 d.b.y):=id rfl
@[simp] theorem dcs2 (d:Dq):d.cs[2]?=some (.int .i64 d.b.w):=id rfl
@[simp] theorem dcs3 (d:Dq):d.cs[3]?=some (.int .i64 d.b.h):=id rfl
@[simp] theorem dcs23 (d:Dq):d.cs[23]?=some (.bool d.part):=id rfl
@[simp] theorem dcs24 (d:Dq):d.cs[24]?=some (.int .i64 d.side):=id rfl
@[simp] theorem dcs25 (d:Dq):d.cs[25]?=some (.int .i64 d.kind):=id rfl
@[simp] theorem dcg0 (d:Dq) (h:0 < d.cs.length):d.cs[0]'h=.int .i64 d.b.x:=id rfl
@[simp] theorem dcg1 (d:Dq) (h:1 < d.cs.length):d.cs[1]'h=.int .i64 d.b.y:=id rfl
@[simp] theorem dcg2 (d:Dq) (h:2 < d.cs.length):d.cs[2]'h=.int .i64 d.b.w:=id rfl
@[simp] theorem dcg3 (d:Dq) (h:3 < d.cs.length):d.cs[3]'h=.int .i64 d.b.h:=id rfl
@[simp] theorem dcg23 (d:Dq) (h:23 < d.cs.length):d.cs[23]'h=.bool d.part:=id rfl
@[simp] theorem dcg24 (d:Dq) (h:24 < d.cs.length):d.cs[24]'h=.int .i64 d.side:=id rfl
@[simp] theorem dcg25 (d:Dq) (h:25 < d.cs.length):d.cs[25]'h=.int .i64 d.kind:=id rfl
@[simp] theorem dcs_b (d:Dq):(d.cs.drop 0).take 23=d.b.cs:=id rfl
@[simp] theorem dcs_a (d:Dq):(d.cs.drop 0).take 26=d.cs:=id rfl
theorem zdq:([.int .i64 0,.int .i64 0,.int .i64 0,.int .i64 0,.bool false,.bool false,.int .i64 0,.int .i64 0,.int .i64 0,.int .i64 0,.int .i64 0,.int .i64 0,.int .i64 0,.bool false,.int .i64 0,.int .i64 0,.int .i64 0,.int .i64 0,.int .i64 0,.int .i64 0,.int .i64 0,.int .i64 0,.bool false,.bool false,.int .i64 0,.int .i64 0]:List V)=dqZ.cs:=rfl
attribute [simp] zdq
@[simp] theorem fw_dq (a b:Dq):fillW a.cs [(some (0,26),.agg b.cs)]=some b.cs:=id rfl
theorem vec_of {key ll:Bool} {b:Bk} (mb:MayB key ll b):vecB b.m0∧vecB b.m1:=by
 obtain ⟨_,_,_,hmi⟩:=mb
 cases hin:b.inter with
 | true =>
  rw [hin,if_pos rfl] at hmi
  refine ⟨hmi.2.2.2.1,?_⟩
  have:=hmi.2.2.2.2.2
  unfold secondB at this
  cases hcm:b.comp with
  | true=>rw [hcm,if_pos rfl] at this;exact this.2.1
  | false=>rw [hcm,if_neg (by decide)] at this;rw [this.2];decide
 | false =>
  rw [hin,if_neg (by decide)] at hmi
  obtain ⟨⟨_,_,_,_,_,z6,z7,_⟩,_⟩:=hmi
  rw [z6,z7];exact ⟨by decide,by decide⟩
theorem put_len (G:Gr) (b:Bk):(putP G b).1.bs.length≤G.bs.length+1:=by
 unfold putP
 split
 ·split
  ·simp only [List.length_append,List.length_singleton];omega
  ·exact Nat.le_succ _
 ·exact Nat.le_succ _
def StepW (key ll:Bool) (G:Gr) (d:Dq) (l:List Op) (G':Gr):Prop :=
 if d.part then PartB d.b.x d.b.y d.side∧(∃ k:Nat,d.kind=(k:Nat)∧k < vl (pkd d.side)∧l=[.sym (pkd d.side) (pcx G d.b.x d.b.y d.side) k])∧G'=G
 else InG G d.b∧MayB key ll d.b∧Rd (blkP false key ll G d.b) (some d.b) l∧G'=(putP G d.b).1
def Went (key ll:Bool):Gr→List Dq→List Op→Gr→Prop
 | G,[],l,G'=>l=[]∧G'=G
 | G,d :: ds,l,G'=>∃ l1 l2 G1,StepW key ll G d l1 G1∧Went key ll G1 ds l2 G'∧l=l1 ++ l2
theorem Went.snoc {key ll:Bool} {d:Dq} {l':List Op} {G' G'':Gr} (s:StepW key ll G' d l' G''):∀ {ds:List Dq} {G:Gr} {l:List Op},Went key ll G ds l G'→Went key ll G (ds ++ [d]) (l ++ l') G''
 | [],G,l,⟨e1,e2⟩=>by subst e1 e2;exact ⟨l',[],G'',s,⟨rfl,rfl⟩,by simp⟩
 | x :: xs,G,l,⟨l1,l2,G1,s1,w,e⟩=>by subst e;exact ⟨l1,l2 ++ l',G1,s1,Went.snoc s w,by simp⟩
theorem StepW.ok {key ll:Bool} {G G':Gr} {d:Dq} {l:List Op} (s:StepW key ll G d l G'):∀ o ∈ l,o.ok:=by
 unfold StepW at s
 split at s
 ·obtain ⟨_,⟨k,_,hk,rfl⟩,_⟩:=s
  intro o ho
  rcases List.mem_singleton.1 ho with rfl
  exact ⟨(pkd_ok _).1,pcx_ok _ _ _ _,hk⟩
 ·exact s.2.2.1.ok
theorem Went.ok {key ll:Bool} {G':Gr}:∀ {ds:List Dq} {G:Gr} {l:List Op},Went key ll G ds l G'→∀ o ∈ l,o.ok
 | [],G,l,⟨e1,_⟩=>by subst e1;intro o ho;cases ho
 | x :: xs,G,l,⟨l1,l2,G1,s1,w,e⟩=>by
  subst e
  intro o ho
  rcases List.mem_append.1 ho with ho | ho
  ·exact s1.ok o ho
  ·exact Went.ok w o ho
end Go.Proofs.YtbkmdnmncaakdaaGreat
