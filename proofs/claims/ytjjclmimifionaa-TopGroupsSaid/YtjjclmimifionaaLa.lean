/-
  Plain law: quotients and rounded quotients.
-/
import Derived.Test.YtjjclmimifionaaF
import Derived.Test.YtjjclmimifionaaVmC
namespace Go.Vm.TopG.L
theorem w64 {z:Int} (h : -9223372036854775808≤z∧z≤9223372036854775807):IntKind.i64.wrap z=z:=by
 rw [IntKind.wrap_i64]; omega
theorem w8 {z:Int} (h:0≤z∧z≤255):IntKind.u8.wrap z=z:=by
 have:IntKind.u8.wrap z=z % 256:=by simp [IntKind.wrap,IntKind.bits,IntKind.signed]
 rw [this]; omega
def rndQ (a b:Int):Int:=if a - a / b * b ≥ b - (a - a / b * b) then a / b+1 else a / b
theorem quo_ok {F:Nat} {a b:Int} (hb:0 < b) (hb2:b≤4611686018427387904) (ha:0≤a∧a≤4611686018427387904):num_Quo F a b=some (a / b):=by
 have h1:a.tmod b=a % b:=Int.tmod_eq_emod_of_nonneg ha.1
 have h2:a.tdiv b=a / b:=Int.tdiv_eq_ediv_of_nonneg ha.1
 have h3:0≤a % b:=Int.emod_nonneg _ (by omega)
 have h4:0≤a / b:=Int.ediv_nonneg ha.1 (by omega)
 have h5:a / b≤a:=Int.ediv_le_self _ ha.1
 unfold num_Quo chk call
 rw [h1,h2]
 have h0:b≠0:=by omega
 have h6:decide (a % b < 0)=false:=by simpa using h3
 simp [h0,h6]
 exact w64 (by omega)
theorem near_ok {F:Nat} {a b:Int} (hb:0 < b) (hb2:b≤4611686018427387904) (ha:0≤a∧a≤4611686018427387904):num_Near F a b=some (rndQ a b):=by
 unfold num_Near
 rw [quo_ok hb hb2 ha]
 have h4:0≤a / b:=Int.ediv_nonneg ha.1 (by omega)
 have h5:a / b≤a:=Int.ediv_le_self _ ha.1
 have h6:a / b * b≤a:=Int.ediv_mul_le _ (by omega)
 have h7:0≤a / b * b:=Int.mul_nonneg h4 (by omega)
 have h8:a - a / b * b < b:=by
  have:=Int.emod_lt_of_pos a hb
  have e:=Int.emod_add_mul_ediv a b
  have c:=Int.mul_comm b (a / b)
  omega
 unfold call lett rndQ
 simp only
 rw [w64 (z:=a / b * b) (by omega),w64 (z:=a - a / b * b) (by omega),w64 (z:=b - (a - a / b * b)) (by omega),w64 (z:=a / b+1) (by omega)]
 by_cases h:a - a / b * b ≥ b - (a - a / b * b)
 ·simp [h]
 ·simp [h]
end Go.Vm.TopG.L
namespace Go.Vm.TopG.L
def Byt (z:Int):Prop:=0≤z∧z≤255
structure InkOk (v:S_Inks):Prop where
 h0:Byt v.f0
 h1:Byt v.f1
 h2:Byt v.f2
 h3:Byt v.f3
 h4:Byt v.f4
 h5:Byt v.f5
 h6:Byt v.f6
 h7:Byt v.f7
structure StOk (s:S_State):Prop where
 a:Byt s.f0
 i:InkOk s.f1
 z:s.f0=0→s.f1=ink0
theorem rndQ_mul {c b:Int} (hb:0 < b):rndQ (c * b) b=c:=by
 unfold rndQ
 have h1:c * b / b=c:=Int.mul_ediv_cancel _ (by omega)
 rw [h1]
 have:c * b - c * b=0:=by omega
 rw [this,if_neg (by omega)]
theorem mix_normal {F:Nat} {b s:Int} (hb:Byt b) (hs:Byt s):mixF F 0 b s=some s:=by
 obtain ⟨b0,b1⟩:=hb
 obtain ⟨s0,s1⟩:=hs
 unfold mixF mode1 blend_modes_c1
 simp only [show ((0:Int) == 0)=true from rfl,cond_true,call]
 rw [w8 (z:=255 - s) (by omega),w64 (z:=255 - s) (by omega),w8 (z:=255 - s) (by omega),w8 (z:=255 - (255 - s)) (by omega)]
 congr 1
 omega
theorem mix1_opaque {F:Nat} {a c i:Int} (ha:Byt a) (hc:Byt c) (hi:Byt i):mix1 F 0 false a 255 65025 c i=some i:=by
 have hb:=mix_normal (F:=F) hc hi
 obtain ⟨a0,a1⟩:=ha
 obtain ⟨i0,i1⟩:=hi
 obtain ⟨c0,c1⟩:=hc
 have k1:0≤a * i:=Int.mul_nonneg a0 i0
 have k2:a * i≤255 * 255:=Int.mul_le_mul a1 i1 i0 (by decide)
 have k3:(255 - a) * i=255 * i - a * i:=by rw [Int.sub_mul]
 unfold mix1
 simp only [Bool.false_and,cond_false,call,hb]
 rw [show (255:Int) - 255=0 from rfl,show IntKind.i64.wrap 0=0 from rfl,Int.zero_mul,show IntKind.i64.wrap 0=0 from rfl,Int.zero_mul,show IntKind.i64.wrap 0=0 from rfl,w64 (z:=255 - a) (by omega),w64 (z:=i) (by omega),w64 (z:=(255 - a) * i) (by omega),w64 (z:=a * i) (by omega),
  show (255 - a) * i+a * i=255 * i by omega,w64 (z:=255 * i) (by omega),w64 (z:=255 * (255 * i)) (by omega),Int.zero_add,w64 (z:=255 * (255 * i)) (by omega),near_ok (by decide) (by decide) (by omega),show 255 * (255 * i)=i * 65025 by omega,rndQ_mul (by decide)]
 simp only
 rw [w8 (by omega)]
/-- Normal opaque paint covers. -/
theorem paint_opaque {F:Nat} {st:S_State} (hs:StOk st) {ink:S_Inks} (hi:InkOk ink):paintC F st ink 255 0 false=some ⟨255,ink⟩:=by
 obtain ⟨a0,a1⟩:=hs.a
 unfold paintC lett
 rw [w64 (z:=st.f0) (by omega),show IntKind.i64.wrap 255=255 from rfl]
 simp only []
 rw [w64 (z:=st.f0+255) (by omega),w64 (z:=255 * (st.f0+255)) (by omega),w64 (z:=st.f0 * 255) (by omega),w64 (by omega),show 255 * (st.f0+255) - st.f0 * 255=65025 by omega]
 have hn:num_Near F 65025 255=some 255:=by rw [near_ok (by decide) (by decide) (by decide)]; rfl
 unfold inkM
 simp only [show ((65025:Int) == 0)=false from rfl,cond_false,call,hn,mix1_opaque hs.a hs.i.h0 hi.h0,mix1_opaque hs.a hs.i.h1 hi.h1,mix1_opaque hs.a hs.i.h2 hi.h2,mix1_opaque hs.a hs.i.h3 hi.h3,mix1_opaque hs.a hs.i.h4 hi.h4,mix1_opaque hs.a hs.i.h5 hi.h5,mix1_opaque hs.a hs.i.h6 hi.h6,mix1_opaque hs.a hs.i.h7 hi.h7]
 rfl
theorem betw1_255 {F:Nat} {q c i:Int} (hq:0 < q∧q≤65025) (hi:Byt i):betw1 F 0 q c i=some i:=by
 obtain ⟨i0,i1⟩:=hi
 have k1:0≤q * i:=Int.mul_nonneg (by omega) i0
 have k2:q * i≤65025 * 255:=Int.mul_le_mul hq.2 i1 i0 (by decide)
 unfold betw1
 rw [Int.zero_mul,show IntKind.i64.wrap 0=0 from rfl,w64 (z:=i) (by omega),w64 (z:=q * i) (by omega),Int.zero_add,w64 (z:=q * i) (by omega),Int.zero_add,w64 (z:=q) (by omega),near_ok hq.1 (by omega) (by omega),Int.mul_comm,rndQ_mul hq.1]
 simp only [call]
 rw [w8 (by omega)]
/-- At 255 the second state is left. -/
theorem between_255 {F:Nat} {a b:S_State} (hb:StOk b):betweenC F a b 255=some b:=by
 obtain ⟨b0,b1⟩:=hb.a
 unfold betweenC lett
 have e0:IntKind.i64.wrap (IntKind.i64.wrap (IntKind.u8.wrap (255 - 255)) * IntKind.i64.wrap a.f0)=0:=by
  rw [show IntKind.i64.wrap (IntKind.u8.wrap (255 - 255))=0 from rfl,Int.zero_mul]; rfl
 rw [e0,show IntKind.i64.wrap 255=255 from rfl,w64 (z:=b.f0) (by omega),w64 (z:=255 * b.f0) (by omega)]
 simp only []
 rw [Int.zero_add,w64 (z:=255 * b.f0) (by omega),near_ok (by decide) (by decide) (by omega),Int.mul_comm,rndQ_mul (by decide)]
 simp only [call]
 rw [w8 (z:=b.f0) (by omega)]
 by_cases h0:b.f0=0
 ·have:=hb.z h0
  simp only [h0,show ((0:Int) == 0)=true from rfl,cond_true]
  rw [← this,← h0]
 ·have hq:0 < b.f0 * 255∧b.f0 * 255≤65025:=by omega
  rw [show (b.f0 == 0)=false by simpa using h0,cond_false]
  unfold inkM
  simp only [call,betw1_255 hq hb.i.h0,betw1_255 hq hb.i.h1,betw1_255 hq hb.i.h2,betw1_255 hq hb.i.h3,betw1_255 hq hb.i.h4,betw1_255 hq hb.i.h5,betw1_255 hq hb.i.h6,betw1_255 hq hb.i.h7]
end Go.Vm.TopG.L
namespace Go.Vm.TopG.L
theorem quo_tot {F:Nat} {a b:Int} (hb:b≠0):∃ r,num_Quo F a b=some r:=by
 unfold num_Quo chk call
 simp only [hb,ne_eq,not_false_eq_true,if_true]
 by_cases h:decide (a.tmod b < 0)=true
 ·rw [h]; exact ⟨_,rfl⟩
 ·rw [show decide (a.tmod b < 0)=false by simpa using h]; exact ⟨_,rfl⟩
theorem near_tot {F:Nat} {a b:Int} (hb:b≠0):∃ r,num_Near F a b=some r:=by
 obtain ⟨q,hq⟩:=quo_tot (F:=F) (a:=a) hb
 unfold num_Near
 rw [hq]
 simp only [call,lett]
 by_cases h:decide (IntKind.i64.wrap (a - IntKind.i64.wrap (q * b)) ≥ IntKind.i64.wrap (b - IntKind.i64.wrap (a - IntKind.i64.wrap (q * b))))=true
 ·rw [h]; exact ⟨_,rfl⟩
 ·rw [show decide (IntKind.i64.wrap (a - IntKind.i64.wrap (q * b)) ≥ IntKind.i64.wrap (b - IntKind.i64.wrap (a - IntKind.i64.wrap (q * b))))=false by simpa using h]; exact ⟨_,rfl⟩
theorem mul255_tot {F:Nat} {a b:Int}:∃ r,num_Mul255 F a b=some r∧Byt r:=by
 obtain ⟨z,hz⟩:=near_tot (F:=F) (a:=IntKind.i64.wrap (IntKind.i64.wrap a * IntKind.i64.wrap b)) (b:=255) (by decide)
 unfold num_Mul255
 rw [hz]
 refine ⟨_,rfl,?_⟩
 have:IntKind.u8.wrap z=z % 256:=by simp [IntKind.wrap,IntKind.bits,IntKind.signed]
 unfold Byt
 rw [this]; omega
theorem byt_wrap (z:Int):Byt (IntKind.u8.wrap z):=by
 have:IntKind.u8.wrap z=z % 256:=by simp [IntKind.wrap,IntKind.bits,IntKind.signed]
 unfold Byt
 rw [this]; omega
theorem bmul_tot {F:Nat} {a b:Int}:∃ r,blend_mul F a b=some r:=by
 obtain ⟨r,hr,_⟩:=mul255_tot (F:=F) (a:=IntKind.u8.wrap a) (b:=IntKind.u8.wrap b)
 unfold blend_mul
 rw [hr]
 exact ⟨_,rfl⟩
theorem hard_tot {F:Nat} {a b:Int}:∃ r,blend_hard F a b=some r:=by
 unfold blend_hard
 by_cases h:decide (b≤127)=true
 ·rw [h,cond_true]
  obtain ⟨r,hr⟩:=bmul_tot (F:=F) (a:=a) (b:=IntKind.i64.wrap (2 * b))
  rw [hr]; exact ⟨_,rfl⟩
 ·rw [show decide (b≤127)=false by simpa using h,cond_false]
  obtain ⟨r,hr⟩:=bmul_tot (F:=F) (a:=IntKind.i64.wrap (255 - a)) (b:=IntKind.i64.wrap (2 * IntKind.i64.wrap (255 - b)))
  rw [hr]; exact ⟨_,rfl⟩
theorem dodge_tot {F:Nat} {a b:Int} (ha:Byt a) (hb:Byt b):∃ r,blend_dodge F a b=some r:=by
 obtain ⟨a0,a1⟩:=ha
 obtain ⟨b0,b1⟩:=hb
 unfold blend_dodge
 rw [w64 (z:=255 - b) (by omega)]
 by_cases h:(a == 0)=true
 ·rw [h,cond_true]; exact ⟨_,rfl⟩
 ·rw [show (a == 0)=false by simpa using h,cond_false]
  by_cases h2:decide (a ≥ 255 - b)=true
  ·rw [h2,cond_true]; exact ⟨_,rfl⟩
  ·rw [show decide (a ≥ 255 - b)=false by simpa using h2,cond_false]
   have h3:¬ a ≥ 255 - b:=by simpa using h2
   obtain ⟨r,hr⟩:=near_tot (F:=F) (a:=IntKind.i64.wrap (255 * a)) (b:=255 - b) (by omega)
   rw [hr]; exact ⟨_,rfl⟩
theorem burn_tot {F:Nat} {a b:Int} (ha:Byt a) (hb:Byt b):∃ r,blend_burn F a b=some r:=by
 obtain ⟨a0,a1⟩:=ha
 obtain ⟨b0,b1⟩:=hb
 unfold blend_burn
 rw [w64 (z:=255 - a) (by omega)]
 by_cases h:(a == 255)=true
 ·rw [h,cond_true]; exact ⟨_,rfl⟩
 ·rw [show (a == 255)=false by simpa using h,cond_false]
  have h0:¬ a=255:=by simpa using h
  by_cases h2:decide (255 - a ≥ b)=true
  ·rw [h2,cond_true]; exact ⟨_,rfl⟩
  ·rw [show decide (255 - a ≥ b)=false by simpa using h2,cond_false]
   have h3:¬ 255 - a ≥ b:=by simpa using h2
   obtain ⟨r,hr⟩:=near_tot (F:=F) (a:=IntKind.i64.wrap (255 * (255 - a))) (b:=b) (by omega)
   rw [hr]; exact ⟨_,rfl⟩
theorem mode_tot {F:Nat} {k a b:Int} (hk:0≤k∧k < 12) (ha:Byt a) (hb:Byt b):∃ r,mode1 F k a b=some r:=by
 obtain rfl | rfl | rfl | rfl | rfl | rfl | rfl | rfl | rfl | rfl | rfl | rfl:k=0∨k=1∨k=2∨k=3∨k=4∨k=5∨k=6∨k=7∨k=8∨k=9∨k=10∨k=11:=by omega
 ·exact ⟨_,rfl⟩
 ·exact bmul_tot
 ·obtain ⟨r,hr⟩:=bmul_tot (F:=F) (a:=IntKind.i64.wrap (255 - a)) (b:=IntKind.i64.wrap (255 - b))
  show ∃ r,blend_modes_c2 F a b=some r
  unfold blend_modes_c2
  rw [hr]; exact ⟨_,rfl⟩
 ·obtain ⟨r,hr⟩:=hard_tot (F:=F) (a:=b) (b:=a)
  show ∃ r,blend_modes_c3 F a b=some r
  unfold blend_modes_c3
  rw [hr]; exact ⟨_,rfl⟩
 ·exact ⟨_,rfl⟩
 ·exact ⟨_,rfl⟩
 ·exact dodge_tot ha hb
 ·exact burn_tot ha hb
 ·exact hard_tot
 ·show ∃ r,blend_modes_c6 F a b=some r
  unfold blend_modes_c6 lett
  simp only []
  obtain ⟨r,hr⟩:=near_tot (F:=F) (a:=IntKind.i64.wrap (IntKind.i64.wrap (IntKind.i64.wrap (IntKind.i64.wrap (255 - IntKind.i64.wrap (2 * b)) * a) * a)+IntKind.i64.wrap (IntKind.i64.wrap (510 * b) * a))) (b:=65025) (by decide)
  rw [hr]; exact ⟨_,rfl⟩
 ·exact ⟨_,rfl⟩
 ·show ∃ r,blend_modes_c8 F a b=some r
  unfold blend_modes_c8
  obtain ⟨r,hr⟩:=near_tot (F:=F) (a:=IntKind.i64.wrap (IntKind.i64.wrap (2 * a) * b)) (b:=255) (by decide)
  rw [hr]; exact ⟨_,rfl⟩
theorem mixF_tot {F:Nat} {k a b:Int} (hk:0≤k∧k < 12):∃ r,mixF F k a b=some r∧Byt r:=by
 have h1:=byt_wrap (255 - a)
 have h2:=byt_wrap (255 - b)
 unfold mixF
 rw [w64 (z:=IntKind.u8.wrap (255 - a)) (by have:=h1.1; have:=h1.2; omega),w64 (z:=IntKind.u8.wrap (255 - b)) (by have:=h2.1; have:=h2.2; omega)]
 obtain ⟨r,hr⟩:=mode_tot (F:=F) hk h1 h2
 rw [hr]
 exact ⟨_,rfl,byt_wrap _⟩
end Go.Vm.TopG.L
namespace Go.Vm.TopG.L
theorem inkM_tot {f:Int→Int→Option Int} {a b:S_Inks} (h:∀ x y,∃ r,f x y=some r∧(Byt x→Byt y→Byt r)) (ha:InkOk a) (hb:InkOk b):∃ v,inkM f a b=some v∧InkOk v:=by
 obtain ⟨r0,e0,k0⟩:=h a.f0 b.f0
 obtain ⟨r1,e1,k1⟩:=h a.f1 b.f1
 obtain ⟨r2,e2,k2⟩:=h a.f2 b.f2
 obtain ⟨r3,e3,k3⟩:=h a.f3 b.f3
 obtain ⟨r4,e4,k4⟩:=h a.f4 b.f4
 obtain ⟨r5,e5,k5⟩:=h a.f5 b.f5
 obtain ⟨r6,e6,k6⟩:=h a.f6 b.f6
 obtain ⟨r7,e7,k7⟩:=h a.f7 b.f7
 unfold inkM
 rw [e0,e1,e2,e3,e4,e5,e6,e7]
 exact ⟨_,rfl,k0 ha.h0 hb.h0,k1 ha.h1 hb.h1,k2 ha.h2 hb.h2,k3 ha.h3 hb.h3,k4 ha.h4 hb.h4,k5 ha.h5 hb.h5,k6 ha.h6 hb.h6,k7 ha.h7 hb.h7⟩
theorem mix1_tot {F:Nat} {k:Int} {over:Bool} {a q all c i:Int} (hk:0≤k∧k < 12) (hall:all≠0):∃ r,mix1 F k over a q all c i=some r∧(Byt c→Byt i→Byt r):=by
 unfold mix1
 by_cases h:(over && ((i == 0) && decide (a > 0)))=true
 ·rw [h,cond_true]
  exact ⟨_,rfl,fun h _=>h⟩
 ·rw [show (over && ((i == 0) && decide (a > 0)))=false by simpa using h,cond_false]
  obtain ⟨b,hb,_⟩:=mixF_tot (F:=F) (a:=c) (b:=i) hk
  rw [hb]
  simp only [call]
  obtain ⟨r,hr⟩:=near_tot (F:=F) (a:=IntKind.i64.wrap (IntKind.i64.wrap (IntKind.i64.wrap (IntKind.i64.wrap (255 - q) * a) * IntKind.i64.wrap c)+IntKind.i64.wrap (q * IntKind.i64.wrap (IntKind.i64.wrap (IntKind.i64.wrap (255 - a) * IntKind.i64.wrap i)+IntKind.i64.wrap (a * IntKind.i64.wrap b))))) (b:=all) hall
  rw [hr]
  exact ⟨_,rfl,fun _ _=>byt_wrap _⟩
theorem ink0_ok:InkOk ink0:=by
 constructor <;> exact ⟨by decide,by decide⟩
theorem rndQ_range {z:Int} (h0:255≤z) (h1:z≤65025):1≤rndQ z 255∧rndQ z 255≤255:=by
 unfold rndQ
 split <;> omega
theorem paint_tot {F:Nat} {st:S_State} (hs:StOk st) {ink:S_Inks} (hi:InkOk ink) {al k:Int} (hal:Byt al) (hk:0≤k∧k < 12) {over:Bool}:∃ s,paintC F st ink al k over=some s∧StOk s:=by
 obtain ⟨a0,a1⟩:=hs.a
 obtain ⟨q0,q1⟩:=hal
 have m0:0≤st.f0 * al:=Int.mul_nonneg a0 q0
 have m1:st.f0 * al≤255 * al:=Int.mul_le_mul_of_nonneg_right a1 q0
 have m2:st.f0 * al≤st.f0 * 255:=Int.mul_le_mul_of_nonneg_left q1 a0
 have m4:0≤(255 - st.f0) * (255 - al):=Int.mul_nonneg (by omega) (by omega)
 have m5:(255 - st.f0) * (255 - al)=65025 - 255 * al - 255 * st.f0+st.f0 * al:=by
  rw [Int.sub_mul,Int.mul_sub,Int.mul_sub]; omega
 unfold paintC lett
 rw [w64 (z:=st.f0) (by omega),w64 (z:=al) (by omega)]
 simp only []
 rw [w64 (z:=st.f0+al) (by omega),w64 (z:=255 * (st.f0+al)) (by omega),w64 (z:=st.f0 * al) (by omega),w64 (z:=255 * (st.f0+al) - st.f0 * al) (by omega)]
 by_cases h0:255 * (st.f0+al) - st.f0 * al=0
 ·rw [show (255 * (st.f0+al) - st.f0 * al == 0)=true by simpa using h0,cond_true]
  exact ⟨_,rfl,⟨by decide,by decide⟩,ink0_ok,fun _=>rfl⟩
 ·rw [show (255 * (st.f0+al) - st.f0 * al == 0)=false by simpa using h0,cond_false]
  have hge:255≤255 * (st.f0+al) - st.f0 * al:=by
   by_cases h:st.f0=0
   ·rw [h] at h0 ⊢; omega
   ·omega
  have hle:255 * (st.f0+al) - st.f0 * al≤65025:=by omega
  rw [near_ok (by decide) (by decide) (by omega)]
  have hr:=rndQ_range hge hle
  obtain ⟨v,hv,hvo⟩:=inkM_tot (f:=mix1 F k over st.f0 al (255 * (st.f0+al) - st.f0 * al)) (fun x y=>mix1_tot hk h0) hs.i hi
  simp only [call]
  rw [hv]
  refine ⟨_,rfl,byt_wrap _,hvo,fun h=>?_⟩
  have h:IntKind.u8.wrap (rndQ (255 * (st.f0+al) - st.f0 * al) 255)=0:=h
  rw [w8 (by omega)] at h
  omega
theorem between_tot {F:Nat} {a b:S_State} (ha:StOk a) (hb:StOk b) {t:Int} (ht:Byt t):∃ s,betweenC F a b t=some s∧StOk s:=by
 obtain ⟨a0,a1⟩:=ha.a
 obtain ⟨b0,b1⟩:=hb.a
 obtain ⟨t0,t1⟩:=ht
 have m0:0≤(255 - t) * a.f0:=Int.mul_nonneg (by omega) a0
 have m1:(255 - t) * a.f0≤(255 - t) * 255:=Int.mul_le_mul_of_nonneg_left a1 (by omega)
 have m2:0≤t * b.f0:=Int.mul_nonneg t0 b0
 have m3:t * b.f0≤t * 255:=Int.mul_le_mul_of_nonneg_left b1 t0
 unfold betweenC lett
 rw [w8 (z:=255 - t) (by omega),w64 (z:=255 - t) (by omega),w64 (z:=a.f0) (by omega),w64 (z:=(255 - t) * a.f0) (by omega),w64 (z:=t) (by omega),w64 (z:=b.f0) (by omega),w64 (z:=t * b.f0) (by omega)]
 simp only []
 rw [w64 (z:=(255 - t) * a.f0+t * b.f0) (by omega)]
 obtain ⟨z,hz⟩:=near_tot (F:=F) (a:=(255 - t) * a.f0+t * b.f0) (b:=255) (by decide)
 rw [hz]
 simp only [call]
 by_cases h0:IntKind.u8.wrap z=0
 ·rw [show (IntKind.u8.wrap z == 0)=true by simpa using h0,cond_true]
  exact ⟨_,rfl,⟨by decide,by decide⟩,ink0_ok,fun _=>rfl⟩
 ·rw [show (IntKind.u8.wrap z == 0)=false by simpa using h0,cond_false]
  have hne:(255 - t) * a.f0+t * b.f0≠0:=fun h=>by
   rw [h,near_ok (by decide) (by decide) (by decide)] at hz
   cases hz
   exact h0 rfl
  obtain ⟨v,hv,hvo⟩:=inkM_tot (f:=betw1 F ((255 - t) * a.f0) (t * b.f0)) (fun x y=>by
   unfold betw1
   rw [w64 (z:=(255 - t) * a.f0+t * b.f0) (by omega)]
   obtain ⟨r,hr⟩:=near_tot (F:=F) (a:=IntKind.i64.wrap (IntKind.i64.wrap ((255 - t) * a.f0 * IntKind.i64.wrap x)+IntKind.i64.wrap (t * b.f0 * IntKind.i64.wrap y))) (b:=(255 - t) * a.f0+t * b.f0) hne
   rw [hr]
   exact ⟨_,rfl,fun _ _=>byt_wrap _⟩) ha.i hb.i
  rw [hv]
  exact ⟨_,rfl,byt_wrap _,hvo,fun h=>absurd h h0⟩
end Go.Vm.TopG.L
namespace Go.Vm.TopG.L
theorem rnsL_bnd' {y x0 x1:Int}:∀ (l:List S_Run) (a:Int×Int),a∈rnsL y x0 x1 l→x0≤a.1∧a.2≤x1
 | [],a,h=>by cases h
 | s :: r,a,h=>by
  unfold rnsL at h
  split at h
  ·rcases List.mem_cons.1 h with rfl | h
   ·exact ⟨by omega,by omega⟩
   ·exact rnsL_bnd' r a h
  ·cases h
/-- A fill that can be painted at a cell. -/
def FillOk (F:Nat) (y x:Int) (i:S_Item):Prop:=(∃ p,srcF F i.f2 x y=some p∧InkOk p.1∧Byt p.2)∧0≤i.f4∧i.f4 < 12
theorem fill1 {F:Nat} {y x:Int} {i:S_Item} (hi:FillOk F y x i) {s:S_State} (hs:StOk s):∃ s',fillN F i y x none 1 x [s]=some [s']∧StOk s':=by
 obtain ⟨⟨p,hp,hpi,hpb⟩,hk0,hk1⟩:=hi
 obtain ⟨q,hq,hqb⟩:=mul255_tot (F:=F) (a:=p.2) (b:=i.f3)
 have hink:InkOk (bif q == 0 then ink0 else p.1):=by cases (q == 0) <;> first | exact hpi | exact ink0_ok
 obtain ⟨s',hs',ho⟩:=paint_tot (F:=F) hs hink hqb ⟨hk0,hk1⟩ (over:=i.f5)
 unfold fillN fillN
 rw [hp]
 simp only [call]
 rw [hq]
 simp only [Int.sub_self,Int.toNat_zero,Option.getD_none,List.getD_cons_zero]
 rw [hs']
 exact ⟨s',rfl,ho⟩
theorem fillR1 {F:Nat} {y x:Int} {i:S_Item} (hi:FillOk F y x i):∀ (rs:List (Int×Int)),(∀ a∈rs,x≤a.1∧a.2≤x+1)→∀ s,StOk s→∃ s',fillR F i y x none rs [s]=some [s']∧StOk s'∧(markR x rs [false]=[false]→s'=s)
 | [],_,s,hs=>⟨s,rfl,hs,fun _=>rfl⟩
 | a :: rs,h,s,hs=>by
  obtain ⟨h1,h2⟩:=h a (List.mem_cons_self ..)
  have hr:=fillR1 hi rs (fun b hb=>h b (List.mem_cons_of_mem _ hb))
  by_cases hc:(a.2 - a.1).toNat=0
  ·unfold fillR markR
   rw [hc]
   exact hr s hs
  ·have e1:a.1=x:=by omega
   have e2:(a.2 - a.1).toNat=1:=by omega
   obtain ⟨s1,k1,k2⟩:=fill1 hi hs
   obtain ⟨s',k3,k4,_⟩:=hr s1 k2
   unfold fillR
   rw [e2,e1,k1]
   refine ⟨s',k3,k4,fun hm=>?_⟩
   exfalso
   unfold markR at hm
   rw [e2,e1] at hm
   have key:∀ (rs:List (Int×Int)) (m:List Bool),m=[true]→(∀ a∈rs,x≤a.1∧a.2≤x+1)→markR x rs m=[true]:=by
    intro rs
    induction rs with
    | nil=>intro m hm _; exact hm
    | cons b r ih =>
     intro m hm hb
     have hb1:=hb b (List.mem_cons_self ..)
     unfold markR
     refine ih _ ?_ fun c hc=>hb c (List.mem_cons_of_mem _ hc)
     by_cases h0:(b.2 - b.1).toNat=0
     ·rw [h0]; exact hm
     ·rw [show (b.2 - b.1).toNat=1 by omega,show b.1=x by omega,hm]
      simp [markN]
   have:=key rs (markN x 1 x [false]) (by simp [markN]) fun c hc=>h c (List.mem_cons_of_mem _ hc)
   rw [this] at hm
   cases hm
end Go.Vm.TopG.L
namespace Go.Vm.TopG.L
mutual
def Mb.good (F:Nat) (y x:Int):Mb→Prop
 | .fill i=>FillOk F y x i
 | .grp g l=>(Byt g.f3∧0≤g.f4∧g.f4 < 12∧g.f7=false)∧Mb.goods F y x l
def Mb.goods (F:Nat) (y x:Int):List Mb→Prop
 | []=>True
 | a :: r=>Mb.good F y x a∧Mb.goods F y x r
end
theorem state0_ok:StOk state0:=⟨⟨by decide,by decide⟩,ink0_ok,fun _=>rfl⟩
theorem over1_f {F:Nat} {g:S_Item} {b n:S_State} (h:g.f6=false):over1 F g b n=betweenC F b n g.f3:=by
 unfold over1
 rw [h,cond_false]
theorem over1_t {F:Nat} {g:S_Item} {b n:S_State} {q:Int} (h:g.f6=true) (hq:num_Mul255 F n.f0 g.f3=some q):over1 F g b n=paintC F b (bif q == 0 then ink0 else n.f1) q g.f4 false:=by
 unfold over1
 rw [h,cond_true,hq,call]
theorem ink_or {q:Int} {v:S_Inks} (h:InkOk v):InkOk (bif q == 0 then ink0 else v):=by
 by_cases h0:(q == 0)=true
 ·rw [h0,cond_true]; exact ink0_ok
 ·rw [show (q == 0)=false by simpa using h0,cond_false]; exact h
theorem over1_tot {F:Nat} {g:S_Item} (hg:Byt g.f3∧0≤g.f4∧g.f4 < 12) {b n:S_State} (hb:StOk b) (hn:StOk n):∃ s,over1 F g b n=some s∧StOk s:=by
 by_cases h:g.f6=true
 ·obtain ⟨q,hq,hqb⟩:=mul255_tot (F:=F) (a:=n.f0) (b:=g.f3)
  rw [over1_t h hq]
  exact paint_tot hb (ink_or hn.i) hqb hg.2
 ·rw [over1_f (by simpa using h)]
  exact between_tot hb hn hg.1
theorem markN_len (x0:Int):∀ (n:Nat) (x:Int) (m:List Bool),(markN x0 n x m).length=m.length
 | 0,_,_=>rfl
 | n+1,x,m=>by unfold markN; rw [markN_len x0 n,List.length_set]
theorem markR_len' (x0:Int):∀ (r:List (Int×Int)) (m:List Bool),(markR x0 r m).length=m.length
 | [],_=>rfl
 | p :: r,m=>by unfold markR; rw [markR_len' x0 r,markN_len]
mutual
theorem cov_len' (y x0 x1:Int):∀ (a:Mb) (m:List Bool),(Mb.cov y x0 x1 a m).length=m.length
 | .fill i,m=>by unfold Mb.cov; exact markR_len' _ _ _
 | .grp _ l,m=>by unfold Mb.cov; exact covs_len'' y x0 x1 l m
theorem covs_len'' (y x0 x1:Int):∀ (l:List Mb) (m:List Bool),(Mb.covs y x0 x1 l m).length=m.length
 | [],m=>rfl
 | a :: r,m=>by unfold Mb.covs; rw [covs_len'' y x0 x1 r,cov_len' y x0 x1 a]
end
theorem markR_true {x:Int}:∀ (rs:List (Int×Int)),(∀ a∈rs,x≤a.1∧a.2≤x+1)→markR x rs [true]=[true]
 | [],_=>rfl
 | b :: r,h=>by
  have hb1:=h b (List.mem_cons_self ..)
  unfold markR
  have:markN x (b.2 - b.1).toNat b.1 [true]=[true]:=by
   by_cases h0:(b.2 - b.1).toNat=0
   ·rw [h0]; rfl
   ·rw [show (b.2 - b.1).toNat=1 by omega,show b.1=x by omega]
    simp [markN]
  rw [this]
  exact markR_true r fun c hc=>h c (List.mem_cons_of_mem _ hc)
theorem rns_bnd' {y x0 x1:Int} {l:List S_Run}:∀ a∈rns l y x0 x1,x0≤a.1∧a.2≤x1:=fun a h=>rnsL_bnd' _ a h
mutual
theorem cov_true (y x:Int):∀ (a:Mb),Mb.cov y x (x+1) a [true]=[true]
 | .fill i=>by unfold Mb.cov; exact markR_true _ rns_bnd'
 | .grp _ l=>by unfold Mb.cov; exact covs_true y x l
theorem covs_true (y x:Int):∀ (l:List Mb),Mb.covs y x (x+1) l [true]=[true]
 | []=>rfl
 | a :: r=>by unfold Mb.covs; rw [cov_true y x a]; exact covs_true y x r
end
theorem one_of {m:List Bool} (h:m.length=1):m=[true]∨m=[false]:=by
 match m,h with
 | [b],_=>cases b <;> simp
mutual
theorem paint1 {F:Nat} {y x:Int}:∀ (a:Mb),Mb.good F y x a→∀ s,StOk s→∃ s',Mb.paint F y x (x+1) a none [s]=some [s']∧StOk s'∧(Mb.cov y x (x+1) a [false]=[false]→s'=s)
 | .fill i,h,s,hs=>by
  unfold Mb.good at h
  unfold Mb.paint Mb.cov
  exact fillR1 h _ rns_bnd' s hs
 | .grp g l,h,s,hs=>by
  unfold Mb.good at h
  obtain ⟨⟨g1,g2,g3,g4⟩,hl⟩:=h
  have hp:=paints1 l hl
  rw [Mb.paint,Mb.cov]
  unfold lett
  simp only [g4,cond_false,List.length_cons,List.length_nil,List.replicate,Option.getD_none]
  rcases one_of ((covs_len'' y x (x+1) l [false]).trans rfl) with hm | hm
  ·rw [hm]
   simp only [List.any_cons,List.any_nil,id,Bool.or_false,cond_true]
   obtain ⟨i0,hi0,hio⟩:∃ i0,(bif g.f6 then [state0] else [s])=[i0]∧StOk i0:=by
    cases g.f6 with
    | true=>exact ⟨_,rfl,state0_ok⟩
    | false=>exact ⟨_,rfl,hs⟩
   obtain ⟨s1,k1,k2,_⟩:=hp i0 hio
   obtain ⟨s2,k3,k4⟩:=over1_tot (F:=F) ⟨g1,g2,g3⟩ hs k2
   rw [hi0,k1]
   simp only [call]
   refine ⟨s2,?_,k4,fun h=>by simp at h⟩
   unfold nestO
   rw [cond_true,k3]
   simp only [call]
   unfold nestO
   rfl
  ·rw [hm]
   exact ⟨s,rfl,hs,fun _=>rfl⟩
theorem paints1 {F:Nat} {y x:Int}:∀ (l:List Mb),Mb.goods F y x l→∀ s,StOk s→∃ s',Mb.paints F y x (x+1) l none [s]=some [s']∧StOk s'∧(Mb.covs y x (x+1) l [false]=[false]→s'=s)
 | [],_,s,hs=>⟨s,by rw [Mb.paints],hs,fun _=>rfl⟩
 | a :: r,h,s,hs=>by
  unfold Mb.goods at h
  obtain ⟨s1,k1,k2,k3⟩:=paint1 a h.1 s hs
  obtain ⟨s2,k4,k5,k6⟩:=paints1 r h.2 s1 k2
  rw [Mb.paints,k1]
  simp only [call]
  refine ⟨s2,k4,k5,fun hc=>?_⟩
  rw [Mb.covs] at hc
  rcases one_of ((cov_len' y x (x+1) a [false]).trans rfl) with hm | hm
  ·rw [hm,covs_true] at hc
   simp at hc
  ·rw [hm] at hc
   rw [k6 hc,k3 hm]
end
end Go.Vm.TopG.L
namespace Go.Vm.TopG.L
theorem paints_app {F:Nat} {y x0 x1:Int} {base:Option (List S_State)}:∀ (l r:List Mb) (st:List S_State),Mb.paints F y x0 x1 (l++r) base st=call (Mb.paints F y x0 x1 l base st) fun st=>Mb.paints F y x0 x1 r base st
 | [],r,st=>by rw [List.nil_append,Mb.paints]; rfl
 | a :: l,r,st=>by
  rw [List.cons_append,Mb.paints,Mb.paints]
  cases h:Mb.paint F y x0 x1 a base st with
  | none=>rfl
  | some s=>simp only [call]; exact paints_app l r s
/-- A group that is neither isolated nor a knockout group,of the opacity 255,is its members. -/
theorem grp_none {F:Nat} {y x:Int} {g:S_Item} {l:List Mb} (h3:g.f3=255) (h6:g.f6=false) (h7:g.f7=false) (hl:Mb.goods F y x l) {s:S_State} (hs:StOk s):Mb.paint F y x (x+1) (.grp g l) none [s]=Mb.paints F y x (x+1) l none [s]:=by
 obtain ⟨s1,k1,k2,k3⟩:=paints1 l hl s hs
 rw [Mb.paint]
 unfold lett
 simp only [h6,h7,cond_false,List.length_cons,List.length_nil,List.replicate,Option.getD_none]
 rcases one_of ((covs_len'' y x (x+1) l [false]).trans rfl) with hm | hm
 ·rw [hm,k1]
  simp only [List.any_cons,List.any_nil,id,Bool.or_false,cond_true,call]
  unfold nestO
  rw [cond_true,over1_f h6,h3,between_255 k2]
  simp only [call]
  unfold nestO
  rfl
 ·rw [hm,k1,k3 hm]
  rfl
end Go.Vm.TopG.L
namespace Go.Vm.TopG.L
def Solid (i:S_Item):Prop:=i.f2.f0=0∧i.f3=255∧i.f4=0∧i.f5=false∧InkOk i.f2.f1
theorem mul255_255 {F:Nat}:num_Mul255 F 255 255=some 255:=by
 unfold num_Mul255
 rw [show IntKind.i64.wrap (IntKind.i64.wrap 255 * IntKind.i64.wrap 255)=65025 from rfl,near_ok (by decide) (by decide) (by decide)]
 rfl
theorem src_solid {F:Nat} {s:S_Source} {x y:Int} (h:s.f0=0):srcF F s x y=some (s.f1,255):=by
 unfold srcF
 rw [h]
 rfl
theorem fill1_solid {F:Nat} {y x:Int} {i:S_Item} (h:Solid i) {s:S_State} (hs:StOk s):fillN F i y x none 1 x [s]=some [⟨255,i.f2.f1⟩]:=by
 obtain ⟨h0,h3,h4,h5,hi⟩:=h
 unfold fillN fillN
 rw [src_solid h0]
 simp only [call]
 rw [h3,mul255_255]
 simp only [Int.sub_self,Int.toNat_zero,Option.getD_none,List.getD_cons_zero,h4,h5,show ((255:Int) == 0)=false from rfl,cond_false]
 rw [paint_opaque hs hi]
 rfl
/-- A solid fill at one cell: what it leaves does not hang on what lay there. -/
theorem fillR_solid {F:Nat} {y x:Int} {i:S_Item} (h:Solid i):∀ (rs:List (Int×Int)),(∀ a∈rs,x≤a.1∧a.2≤x+1) →
  (markR x rs [false]=[false]∧∀ s,fillR F i y x none rs [s]=some [s])∨(markR x rs [false]=[true]∧∀ s,StOk s→fillR F i y x none rs [s]=some [⟨255,i.f2.f1⟩])
 | [],_=>.inl ⟨rfl,fun s=>rfl⟩
 | a :: rs,hb=>by
  obtain ⟨h1,h2⟩:=hb a (List.mem_cons_self ..)
  have hrest:=fun b hb'=>hb b (List.mem_cons_of_mem _ hb')
  by_cases hc:(a.2 - a.1).toNat=0
  ·unfold fillR markR
   rw [hc]
   exact fillR_solid h rs hrest
  ·have e1:a.1=x:=by omega
   have e2:(a.2 - a.1).toNat=1:=by omega
   have hmk:markN x 1 x [false]=[true]:=by simp [markN]
   refine .inr ⟨?_,fun s hs=>?_⟩
   ·unfold markR
    rw [e2,e1,hmk]
    exact markR_true rs hrest
   ·unfold fillR
    rw [e2,e1,fill1_solid h hs]
    simp only [call]
    have hok:StOk ⟨255,i.f2.f1⟩:=⟨show Byt 255 from ⟨by decide,by decide⟩,h.2.2.2.2,fun h=>by simp at h⟩
    rcases fillR_solid h rs hrest with ⟨_,k⟩ | ⟨_,k⟩
    ·exact k _
    ·exact k _ hok
end Go.Vm.TopG.L
namespace Go.Vm.TopG.L
def Mb.solid:Mb→Prop
 | .fill i=>Solid i
 | .grp _ _=>False
def Solids:List Mb→Prop
 | []=>True
 | a :: r=>Mb.solid a∧Solids r
theorem solid_ok {i:S_Item} (h:Solid i):StOk ⟨255,i.f2.f1⟩:=⟨show Byt 255 from ⟨by decide,by decide⟩,h.2.2.2.2,fun h=>by simp at h⟩
/-- Solid fills leave one ink,or nothing. -/
theorem paints_solid {F:Nat} {y x:Int} (l:List Mb):Solids l →
  (Mb.covs y x (x+1) l [false]=[false]∧∀ s,StOk s→Mb.paints F y x (x+1) l none [s]=some [s])∨(Mb.covs y x (x+1) l [false]=[true]∧∃ v,InkOk v∧∀ s,StOk s→Mb.paints F y x (x+1) l none [s]=some [⟨255,v⟩]):=by
 induction l with
 | nil=>exact fun _=>.inl ⟨by rw [Mb.covs],fun s _=>by rw [Mb.paints]⟩
 | cons a r ih =>
  intro h
  unfold Solids at h
  obtain ⟨ha,hr⟩:=h
  replace ih:=ih hr
  cases a with
  | grp g k=>exact ha.elim
  | fill i =>
   have ha:Solid i:=ha
   have hf:=fillR_solid (F:=F) (y:=y) (x:=x) ha (rns i.f1 y x (x+1)) rns_bnd'
   have hp:∀ s,Mb.paints F y x (x+1) (.fill i :: r) none [s]=call (fillR F i y x none (rns i.f1 y x (x+1)) [s]) fun st=>Mb.paints F y x (x+1) r none st:=fun s=>by rw [Mb.paints,Mb.paint]
   rw [Mb.covs,Mb.cov]
   rcases hf with ⟨m,k⟩ | ⟨m,k⟩
   ·rw [m]
    rcases ih with ⟨m2,k2⟩ | ⟨m2,v,hv,k2⟩
    ·exact .inl ⟨m2,fun s hs=>by rw [hp,k,call]; exact k2 s hs⟩
    ·exact .inr ⟨m2,v,hv,fun s hs=>by rw [hp,k,call]; exact k2 s hs⟩
   ·rw [m,covs_true]
    rcases ih with ⟨m2,k2⟩ | ⟨m2,v,hv,k2⟩
    ·exact .inr ⟨rfl,i.f2.f1,ha.2.2.2.2,fun s hs=>by rw [hp,k s hs,call]; exact k2 _ (solid_ok ha)⟩
    ·exact .inr ⟨rfl,v,hv,fun s hs=>by rw [hp,k s hs,call]; exact k2 _ (solid_ok ha)⟩
end Go.Vm.TopG.L
namespace Go.Vm.TopG.L
theorem grp_iso {F:Nat} {y x:Int} {g:S_Item} {l:List Mb} (h3:g.f3=255) (h4:g.f4=0) (h6:g.f6=true) (h7:g.f7=false) (hl:Solids l) {s:S_State} (hs:StOk s) :
  Mb.paint F y x (x+1) (.grp g l) none [s]=Mb.paints F y x (x+1) l none [s]:=by
 rw [Mb.paint]
 unfold lett
 simp only [h6,h7,cond_false,cond_true,List.length_cons,List.length_nil,List.replicate,Option.getD_none]
 rcases paints_solid (F:=F) (y:=y) (x:=x) l hl with ⟨hm,k⟩ | ⟨hm,v,hv,k⟩
 ·rw [hm,k s hs]
  rfl
 ·rw [hm,k s hs,k state0 state0_ok]
  simp only [List.any_cons,List.any_nil,id,Bool.or_false,cond_true,call]
  unfold nestO
  rw [cond_true,over1_t (q:=255) h6 (by rw [h3]; exact mul255_255),h4,show ((255:Int) == 0)=false from rfl,cond_false,paint_opaque hs hv]
  simp only [call]
  unfold nestO
  rfl
/-- A stack over another one: the lowest entry lies on (h,k). -/
def absF (h:S_Item) (k:List Mb) (st:List (S_Item×List Mb)):List (S_Item×List Mb)→List (S_Item×List Mb)
 | []=>[]
 | [(g,l)]=>(h,k++l) :: st
 | a :: b :: r=>a :: absF h k st (b :: r)
theorem absF_one {h:S_Item} {k:List Mb} {st:List (S_Item×List Mb)} {a:S_Item×List Mb}:absF h k st [a]=(h,k++a.2) :: st:=rfl
theorem absF_two {h:S_Item} {k:List Mb} {st:List (S_Item×List Mb)} {a b:S_Item×List Mb} {r:List (S_Item×List Mb)}:absF h k st (a :: b :: r)=a :: absF h k st (b :: r):=rfl
theorem absF_top {h:S_Item} {k:List Mb} {st:List (S_Item×List Mb)} {g g':S_Item} {l l':List Mb} {r R:List (S_Item×List Mb)} (e:absF h k st ((g,l) :: r)=(g',l') :: R) (m:List Mb):absF h k st ((g,l++m) :: r)=(g',l'++m) :: R:=by
 cases r with
 | nil =>
  rw [absF_one] at e ⊢
  cases e
  rw [List.append_assoc]
 | cons b r =>
  rw [absF_two] at e ⊢
  cases e
  rfl
theorem absF_cons {h:S_Item} {k:List Mb} {st:List (S_Item×List Mb)} (a:S_Item×List Mb) (r:List (S_Item×List Mb)):∃ g l R,absF h k st (a :: r)=(g,l) :: R:=by
 cases r with
 | nil=>exact ⟨_,_,_,rfl⟩
 | cons b r=>exact ⟨a.1,a.2,_,rfl⟩
theorem step_fill {x g:S_Item} {l:List Mb} {r:List (S_Item×List Mb)} (h:x.f0=0):treeStep x ((g,l) :: r)=some ((g,l++[.fill x]) :: r):=by
 show cond (x.f0 == 0) _ _=_
 rw [h]; rfl
theorem step_open {x g:S_Item} {l:List Mb} {r:List (S_Item×List Mb)} (h:x.f0=1):treeStep x ((g,l) :: r)=some ((x,[]) :: (g,l) :: r):=by
 show cond (x.f0 == 0) _ (cond (x.f0 == 1) _ _)=_
 rw [h]; rfl
theorem step_close {x g h:S_Item} {l k:List Mb} {r:List (S_Item×List Mb)} (h0:x.f0≠0) (h1:x.f0≠1):treeStep x ((g,l) :: (h,k) :: r)=some ((h,k++[.grp g l]) :: r):=by
 show cond (x.f0 == 0) _ (cond (x.f0 == 1) _ _)=_
 rw [show (x.f0 == 0)=false by simpa using h0,show (x.f0 == 1)=false by simpa using h1]; rfl
theorem step_bad {x g:S_Item} {l:List Mb} (h0:x.f0≠0) (h1:x.f0≠1):treeStep x [(g,l)]=none:=by
 show cond (x.f0 == 0) _ (cond (x.f0 == 1) _ _)=_
 rw [show (x.f0 == 0)=false by simpa using h0,show (x.f0 == 1)=false by simpa using h1]; rfl
theorem treeStep_abs {h:S_Item} {k:List Mb} {st:List (S_Item×List Mb)} {x:S_Item}:∀ {R R':List (S_Item×List Mb)},treeStep x R=some R'→treeStep x (absF h k st R)=some (absF h k st R')
  | [],R',e=>by cases e
  | (g,l) :: r,R',e=>by
    obtain ⟨g',l',T,ht⟩:=absF_cons (h:=h) (k:=k) (st:=st) (g,l) r
    rw [ht]
    by_cases h0:x.f0=0
    · rw [step_fill h0] at e ⊢
      cases e
      rw [absF_top ht]
    · by_cases h1:x.f0=1
      · rw [step_open h1] at e ⊢
        cases e
        rw [absF_two,ht]
      · cases r with
        | nil=>rw [step_bad h0 h1] at e; cases e
        | cons b r =>
          obtain ⟨hh,kk⟩:=b
          rw [step_close h0 h1] at e
          cases e
          rw [absF_two] at ht
          cases ht
          obtain ⟨g2,l2,T2,ht2⟩:=absF_cons (h:=h) (k:=k) (st:=st) (hh,kk) r
          rw [ht2,step_close h0 h1,absF_top ht2]
theorem treeF_cons {x:S_Item} {l:List S_Item} {R:List (S_Item×List Mb)}:treeF (x :: l) R=call (treeStep x R) fun R=>treeF l R:=rfl
theorem treeF_abs {h:S_Item} {k:List Mb} {st:List (S_Item×List Mb)}:∀ (l:List S_Item) {R R':List (S_Item×List Mb)},treeF l R=some R'→treeF l (absF h k st R)=some (absF h k st R')
 | [],R,R',e=>by cases e; rfl
 | x :: l,R,R',e=>by
  rw [treeF_cons] at e ⊢
  cases hs:treeStep x R with
  | none=>rw [hs] at e; cases e
  | some R1 =>
   rw [hs,call] at e
   rw [treeStep_abs hs,call]
   exact treeF_abs l e
theorem treeF_app:∀ (l r:List S_Item) (R:List (S_Item×List Mb)),treeF (l++r) R=call (treeF l R) fun R=>treeF r R
 | [],r,R=>rfl
 | x :: l,r,R=>by
  rw [List.cons_append,treeF_cons,treeF_cons]
  cases hs:treeStep x R with
  | none=>rfl
  | some R1=>rw [call,call]; exact treeF_app l r R1
/-- A balanced stretch puts its members onto what is open. -/
theorem treeF_mid {l:List S_Item} {g:S_Item} {ms:List Mb} (e:treeF l [(item0,[])]=some [(g,ms)]) (h:S_Item) (k:List Mb) (st:List (S_Item×List Mb)):treeF l ((h,k) :: st)=some ((h,k++ms) :: st):=by
 have:=treeF_abs (h:=h) (k:=k) (st:=st) l e
 rw [absF_one,absF_one,List.append_nil] at this
 exact this
end Go.Vm.TopG.L
namespace Go.Vm.TopG.L
/-- Members that cover and paint alike at a cell. -/
def Eqv (F:Nat) (y x:Int) (k1 k2:List Mb):Prop :=
 (∀ m,Mb.covs y x (x+1) k1 m=Mb.covs y x (x+1) k2 m)∧∀ s,StOk s→Mb.paints F y x (x+1) k1 none [s]=Mb.paints F y x (x+1) k2 none [s]
theorem Eqv.refl {F:Nat} {y x:Int} (k:List Mb):Eqv F y x k k:=⟨fun _=>rfl,fun _ _=>rfl⟩
theorem covs_nil {y x0 x1:Int} {m:List Bool}:Mb.covs y x0 x1 [] m=m:=by rw [Mb.covs]
theorem covs_cons {y x0 x1:Int} {a:Mb} {r:List Mb} {m:List Bool}:Mb.covs y x0 x1 (a :: r) m=Mb.covs y x0 x1 r (Mb.cov y x0 x1 a m):=by rw [Mb.covs]
theorem paints_nil {F:Nat} {y x0 x1:Int} {b:Option (List S_State)} {s:List S_State}:Mb.paints F y x0 x1 [] b s=some s:=by rw [Mb.paints]
theorem covs_app {y x0 x1:Int} (l r:List Mb) (m:List Bool):Mb.covs y x0 x1 (l++r) m=Mb.covs y x0 x1 r (Mb.covs y x0 x1 l m):=by
 induction l generalizing m with
 | nil=>rw [List.nil_append,covs_nil]
 | cons a l ih=>rw [List.cons_append,covs_cons,covs_cons,ih]
theorem goods_app {F:Nat} {y x:Int} {l r:List Mb} (hl:Mb.goods F y x l) (hr:Mb.goods F y x r):Mb.goods F y x (l++r):=by
 induction l with
 | nil=>exact hr
 | cons a l ih =>
  rw [List.cons_append]
  unfold Mb.goods at hl ⊢
  exact ⟨hl.1,ih hl.2⟩
theorem goods_one {F:Nat} {y x:Int} {a:Mb} (h:Mb.good F y x a):Mb.goods F y x [a]:=by
 unfold Mb.goods Mb.goods
 exact ⟨h,trivial⟩
theorem Eqv.app {F:Nat} {y x:Int} {k1 k2 m1 m2:List Mb} (h:Eqv F y x k1 k2) (hk:Mb.goods F y x k1) (e:Eqv F y x m1 m2):Eqv F y x (k1++m1) (k2++m2):=by
 refine ⟨fun m=>by rw [covs_app,covs_app,h.1,e.1],fun s hs=>?_⟩
 obtain ⟨s1,a,b,_⟩:=paints1 k1 hk s hs
 rw [paints_app,paints_app,← h.2 s hs,a,call,call,e.2 s1 b]
theorem paints_single {F:Nat} {y x0 x1:Int} {a:Mb} {b:Option (List S_State)} {s:List S_State}:Mb.paints F y x0 x1 [a] b s=Mb.paint F y x0 x1 a b s:=by
 rw [Mb.paints]
 cases h:Mb.paint F y x0 x1 a b s with
 | none=>rfl
 | some s=>rw [call,paints_nil]
theorem paint_grp {F:Nat} {y x:Int} {g:S_Item} {l:List Mb} (h7:g.f7=false) (s:S_State):Mb.paint F y x (x+1) (.grp g l) none [s] =
  bif (Mb.covs y x (x+1) l [false]).any id then call (Mb.paints F y x (x+1) l none [bif g.f6 then state0 else s]) fun inner=>nestO F g (Mb.covs y x (x+1) l [false]) [s] inner [s] else some [s]:=by
 rw [Mb.paint]
 unfold lett
 simp only [h7,cond_false,List.length_cons,List.length_nil,List.replicate,Option.getD_none]
 cases g.f6 <;> rfl
theorem Eqv.grp {F:Nat} {y x:Int} {g:S_Item} (h7:g.f7=false) {l1 l2:List Mb} (e:Eqv F y x l1 l2):Eqv F y x [.grp g l1] [.grp g l2]:=by
 refine ⟨fun m=>by rw [covs_cons,covs_cons,covs_nil,covs_nil,Mb.cov,Mb.cov,e.1],fun s hs=>?_⟩
 rw [paints_single,paints_single,paint_grp h7,paint_grp h7,e.1]
 have:StOk (bif g.f6 then state0 else s):=by
  cases g.f6 with
  | true=>exact state0_ok
  | false=>exact hs
 rw [e.2 _ this]
def HeadOk (g:S_Item):Prop:=Byt g.f3∧0≤g.f4∧g.f4 < 12∧g.f7=false
def ItemGood (F:Nat) (y x:Int) (i:S_Item):Prop:=(i.f0=0→FillOk F y x i)∧(i.f0=1→HeadOk i)
def EqvSt (F:Nat) (y x:Int):List (S_Item×List Mb)→List (S_Item×List Mb)→Prop
 | [],[]=>True
 | a :: r,b :: q=>(a.1=b.1∧HeadOk a.1∧Mb.goods F y x a.2∧Eqv F y x a.2 b.2)∧EqvSt F y x r q
 | _,_=>False
theorem goods_fill {F:Nat} {y x:Int} {i:S_Item} (h:FillOk F y x i):Mb.good F y x (.fill i):=by unfold Mb.good; exact h
theorem goods_grp {F:Nat} {y x:Int} {g:S_Item} {l:List Mb} (h:HeadOk g) (hl:Mb.goods F y x l):Mb.good F y x (.grp g l):=by unfold Mb.good; exact ⟨h,hl⟩
theorem step_eqv {F:Nat} {y x:Int} {i:S_Item} (hi:ItemGood F y x i):∀ {R Q R':List (S_Item×List Mb)},EqvSt F y x R Q→treeStep i R=some R'→∃ Q',treeStep i Q=some Q'∧EqvSt F y x R' Q'
  | [],Q,R',h,e=>by cases e
  | (g,l) :: r,[],R',h,e=>h.elim
  | (g,l) :: r,(g',l') :: q,R',h,e=>by
    obtain ⟨⟨h1,h2,h3,h4⟩,hr⟩:=h
    by_cases h0:i.f0=0
    · rw [step_fill h0] at e ⊢
      cases e
      exact ⟨_,rfl,⟨h1,h2,goods_app h3 (goods_one (goods_fill (hi.1 h0))),h4.app h3 (Eqv.refl _)⟩,hr⟩
    · by_cases hh:i.f0=1
      · rw [step_open hh] at e ⊢
        cases e
        exact ⟨_,rfl,⟨rfl,hi.2 hh,by unfold Mb.goods; trivial,Eqv.refl _⟩,⟨h1,h2,h3,h4⟩,hr⟩
      · cases r with
        | nil=>rw [step_bad h0 hh] at e; cases e
        | cons b r =>
          obtain ⟨c,k⟩:=b
          cases q with
          | nil=>exact hr.elim
          | cons b' q =>
            obtain ⟨c',k'⟩:=b'
            obtain ⟨⟨a1,a2,a3,a4⟩,ar⟩:=hr
            rw [step_close h0 hh] at e ⊢
            cases e
            have e1:g=g':=h1
            subst e1
            exact ⟨_,rfl,⟨a1,a2,goods_app a3 (goods_one (goods_grp h2 h3)),a4.app a3 (h4.grp h2.2.2.2)⟩,ar⟩
theorem treeF_eqv {F:Nat} {y x:Int}:∀ (l:List S_Item),(∀ i∈l,ItemGood F y x i)→∀ {R Q R':List (S_Item×List Mb)},EqvSt F y x R Q→treeF l R=some R'→∃ Q',treeF l Q=some Q'∧EqvSt F y x R' Q'
 | [],_,R,Q,R',h,e=>by cases e; exact ⟨Q,rfl,h⟩
 | i :: l,hl,R,Q,R',h,e=>by
  rw [treeF_cons] at e
  cases hs:treeStep i R with
  | none=>rw [hs] at e; cases e
  | some R1 =>
   rw [hs,call] at e
   obtain ⟨Q1,q1,q2⟩:=step_eqv (hl i (List.mem_cons_self ..)) h hs
   obtain ⟨Q2,q3,q4⟩:=treeF_eqv l (fun j hj=>hl j (List.mem_cons_of_mem _ hj)) q2 e
   exact ⟨Q2,by rw [treeF_cons,q1,call,q3],q4⟩
theorem head0:HeadOk item0:=⟨⟨by decide,by decide⟩,by decide,by decide,rfl⟩
theorem st0 {F:Nat} {y x:Int}:EqvSt F y x [(item0,[])] [(item0,[])]:=⟨⟨rfl,head0,by unfold Mb.goods; trivial,Eqv.refl _⟩,trivial⟩
theorem eqv_one {F:Nat} {y x:Int} {a:S_Item×List Mb} {Q:List (S_Item×List Mb)} (h:EqvSt F y x [a] Q):∃ b,Q=[b]∧a.1=b.1∧HeadOk a.1∧Mb.goods F y x a.2∧Eqv F y x a.2 b.2:=by
 cases Q with
 | nil=>exact h.elim
 | cons b q =>
  cases q with
  | nil=>exact ⟨b,rfl,h.1⟩
  | cons c q=>exact h.2.elim
theorem step_ne {i:S_Item} {R R':List (S_Item×List Mb)} (e:treeStep i R=some R'):R'≠[]:=by
 cases R with
 | nil=>cases e
 | cons a r =>
  obtain ⟨g,l⟩:=a
  by_cases h0:i.f0=0
  ·rw [step_fill h0] at e; cases e; simp
  ·by_cases h1:i.f0=1
   ·rw [step_open h1] at e; cases e; simp
   ·cases r with
    | nil=>rw [step_bad h0 h1] at e; cases e
    | cons b r=>rw [step_close h0 h1] at e; cases e; simp
theorem treeF_ne:∀ (l:List S_Item) {R R':List (S_Item×List Mb)},R≠[]→treeF l R=some R'→R'≠[]
 | [],R,R',h,e=>by cases e; exact h
 | i :: l,R,R',h,e=>by
  rw [treeF_cons] at e
  cases hs:treeStep i R with
  | none=>rw [hs] at e; cases e
  | some R1 =>
   rw [hs,call] at e
   exact treeF_ne l (step_ne hs) e
/-- The whole list with a group around a stretch of one level. -/
theorem bracket_eqv {F:Nat} {y x:Int} {pre mid post:List S_Item} {g e:S_Item} (hp:∀ i∈pre,ItemGood F y x i) (hm:∀ i∈mid,ItemGood F y x i) (hq:∀ i∈post,ItemGood F y x i) (hg0:g.f0=1) (hg:HeadOk g) (he0:e.f0≠0) (he1:e.f0≠1)
  {a b:S_Item} {ms M:List Mb} (h1:treeF mid [(item0,[])]=some [(a,ms)]) (h2:treeF (pre++mid++post) [(item0,[])]=some [(b,M)])
  (hw:Mb.goods F y x ms→Eqv F y x ms [.grp g ms]) :
  ∃ M',treeF (pre++[g]++mid++[e]++post) [(item0,[])]=some [(b,M')]∧Mb.goods F y x M∧Eqv F y x M M':=by
 rw [List.append_assoc,treeF_app] at h2
 cases hpre:treeF pre [(item0,[])] with
 | none=>rw [hpre] at h2; cases h2
 | some R =>
  rw [hpre,call,treeF_app] at h2
  obtain ⟨R2,k1,k2⟩:=treeF_eqv pre hp st0 hpre
  rw [hpre] at k1; cases k1
  obtain ⟨T,t1,t2⟩:=treeF_eqv mid hm st0 h1
  rw [h1] at t1; cases t1
  obtain ⟨_,_,_,_,hms,_⟩:=eqv_one t2
  cases R with
  | nil=>exact absurd rfl (treeF_ne pre (by simp) hpre)
  | cons ck st =>
   obtain ⟨c,k⟩:=ck
   rw [treeF_mid h1 c k st,call] at h2
   obtain ⟨⟨_,c2,c3,c4⟩,cr⟩:=k2
   have hst:EqvSt F y x ((c,k++ms) :: st) ((c,k++[.grp g ms]) :: st):=⟨⟨rfl,c2,goods_app c3 hms,(Eqv.refl k).app c3 (hw hms)⟩,cr⟩
   obtain ⟨Q,q1,q2⟩:=treeF_eqv post hq hst h2
   obtain ⟨⟨b',M'⟩,rfl,e1,_,e2,e3⟩:=eqv_one q2
   refine ⟨M',?_,e2,e3⟩
   rw [List.append_assoc,List.append_assoc,List.append_assoc,treeF_app,hpre,call,List.cons_append,List.nil_append,treeF_cons,step_open hg0,call,treeF_app,treeF_mid h1 g [] ((c,k) :: st),call,List.cons_append,List.nil_append,treeF_cons,step_close he0 he1,call,List.nil_append,q1]
   have e1:b=b':=e1
   rw [e1]
end Go.Vm.TopG.L
namespace Go.Vm.TopG.L
/-- A loop over the places 0 .. len - 1 comes to something of which Q is true. -/
theorem loop_q {σ ρ:Type} (len:Nat) (L:Nat→σ→Int→Option ρ) (Inv:Nat→σ→Prop) (Q:ρ→Prop)
  (h1:∀ n s (i:Nat),i < len→Inv i s→(∃ r,L (n+1) s i=some r∧Q r)∨∃ s',L (n+1) s i=L n s' ((i+1:Nat):Int)∧Inv (i+1) s')
  (h2:∀ n s,Inv len s→∃ r,L (n+1) s (len:Int)=some r∧Q r) (n:Nat) (hn:len < n) (s:σ) (h0:Inv 0 s):∃ r,L n s 0=some r∧Q r:=by
 have key:∀ (k i n:Nat) (s:σ),i+k=len→k < n→Inv i s→∃ r,L n s (i:Int)=some r∧Q r:=by
  intro k
  induction k with
  | zero =>
   intro i n s hi hn h
   obtain ⟨n,rfl⟩:∃ k,n=k+1:=⟨n - 1,by omega⟩
   have:i=len:=by omega
   subst this
   exact h2 n s h
  | succ k ih =>
   intro i n s hi hn h
   obtain ⟨n,rfl⟩:∃ k,n=k+1:=⟨n - 1,by omega⟩
   rcases h1 n s i (by omega) h with h | ⟨s',e,h⟩
   ·exact h
   ·rw [e]; exact ih (i+1) n s' (by omega) (by omega) h
 exact key len 0 n s (by omega) hn h0
theorem call_bif {α γ:Type} {b:Bool} {u v:α} {k:α→Option γ}:call (bif b then some u else some v) k=k (bif b then u else v):=by cases b <;> rfl
def runKey (s:S_Run):Int:=s.f0 * 32768+s.f2
abbrev run0:S_Run:=⟨0,0,0⟩
theorem reg_eq {F:Nat} {r:List S_Run} {n i:Nat} (hi:i < r.length) (hi2:i≤600000000):region_Check_L0 F r (n+1) i =
  if ¬ (-8192≤(r.getD i run0).f0∧(r.getD i run0).f0 < 8192 ∧ -8192≤(r.getD i run0).f1∧(r.getD i run0).f1≤8192 ∧ -8192≤(r.getD i run0).f2∧(r.getD i run0).f2≤8192) then some (.esc 3)
  else if (r.getD i run0).f1 ≥ (r.getD i run0).f2 then some (.esc 4)
  else if 0 < i∧(r.getD i run0).f0≤(r.getD (i - 1) run0).f0∧((r.getD i run0).f0 < (r.getD (i - 1) run0).f0∨(r.getD i run0).f1≤(r.getD (i - 1) run0).f2) then some (.esc 18)
  else region_Check_L0 F r n ((i+1:Nat):Int):=by
 simp only [region_Check_L0,dec_lt hi,cond_true,chk_in hi,region_permitted,region_border,call_some,call_bif,Int.toNat_natCast,lett]
 rw [wrap_succ (by omega)]
 simp only [run0]
 cases i with
 | zero =>
  rw [chk_pos (by simp),chk_pos (by simp),chk_pos (by simp)]
  simp only [or_cond,and_cond,Bool.cond_eq_ite]
  grind
 | succ i =>
  have e:IntKind.i64.wrap (((i+1:Nat):Int) - 1)=(i:Int):=by rw [w64 (by omega)]; omega
  rw [e,chk_pos (by intro; omega),chk_pos (by intro; omega),chk_pos (by intro; omega)]
  simp only [or_cond,and_cond,Bool.cond_eq_ite,Int.toNat_natCast,Nat.add_sub_cancel]
  grind
theorem region_tot {F:Nat} {r:List S_Run} (hF:r.length < F):∃ e,region_Check F r=some e∧(e=0→r.length≤1000000000):=by
 have h:=loop_q r.length (fun n (_:Unit) i=>region_Check_L0 F r n i) (fun i _=>i≤600000000∧(0 < i→(i:Int)≤runKey (r.getD (i - 1) run0)+300000000∧(r.getD (i - 1) run0).f0 < 8192∧(r.getD (i - 1) run0).f2≤8192))
  (fun o=>(∃ e,o=.esc e∧e≠0)∨(o=.go ()∧r.length≤1000000000)) (fun n _ i hi inv=>by
   obtain ⟨i1,i2⟩:=inv
   rw [reg_eq hi i1]
   by_cases c1:¬ (-8192≤(r.getD i run0).f0∧(r.getD i run0).f0 < 8192 ∧ -8192≤(r.getD i run0).f1∧(r.getD i run0).f1≤8192 ∧ -8192≤(r.getD i run0).f2∧(r.getD i run0).f2≤8192)
   ·rw [if_pos c1]; exact .inl ⟨_,rfl,.inl ⟨_,rfl,by decide⟩⟩
   ·rw [if_neg c1]
    by_cases c2:(r.getD i run0).f1 ≥ (r.getD i run0).f2
    ·rw [if_pos c2]; exact .inl ⟨_,rfl,.inl ⟨_,rfl,by decide⟩⟩
    ·rw [if_neg c2]
     by_cases c3:0 < i∧(r.getD i run0).f0≤(r.getD (i - 1) run0).f0∧((r.getD i run0).f0 < (r.getD (i - 1) run0).f0∨(r.getD i run0).f1≤(r.getD (i - 1) run0).f2)
     ·rw [if_pos c3]; exact .inl ⟨_,rfl,.inl ⟨_,rfl,by decide⟩⟩
     ·rw [if_neg c3]
      refine .inr ⟨(),rfl,?_,fun _=>?_⟩
      ·by_cases h0:0 < i
       ·have:=i2 h0
        unfold runKey at this
        omega
       ·omega
      ·rw [Nat.add_sub_cancel]
       unfold runKey at i2 ⊢
       by_cases h0:0 < i
       ·have:=i2 h0
        omega
       ·omega)
  (fun n _ inv=>by
   simp only [region_Check_L0,dec_end,cond_false]
   exact ⟨_,rfl,.inr ⟨rfl,by omega⟩⟩) F hF () ⟨by omega,fun h=>by omega⟩
 obtain ⟨o,h1,h2⟩:=h
 unfold region_Check
 rw [h1]
 rcases h2 with ⟨e,rfl,he⟩ | ⟨rfl,hl⟩
 ·exact ⟨e,rfl,fun h=>absurd h he⟩
 ·exact ⟨0,rfl,fun _=>hl⟩
theorem affine_tot {F:Nat} {m:S_Matrix} (hF:4 < F):∃ e,affine_Check F m=some e∧(e=0→(-1048576≤m.f0∧m.f0≤1048576)∧(-1048576≤m.f1∧m.f1≤1048576)∧(-1048576≤m.f2∧m.f2≤1048576)∧(-1048576≤m.f3∧m.f3≤1048576)∧(-268435456≤m.f4∧m.f4≤268435456)∧(-268435456≤m.f5∧m.f5≤268435456)):=by
 have h:=loop_q 4 (fun n (_:Unit) i=>affine_Check_L0 F m n i) (fun i _=>∀ j,j < i → -1048576≤[m.f0,m.f1,m.f2,m.f3].getD j 0∧[m.f0,m.f1,m.f2,m.f3].getD j 0≤1048576)
  (fun o=>(∃ e,o=.esc e∧e≠0)∨(o=.go ()∧∀ j,j < 4 → -1048576≤[m.f0,m.f1,m.f2,m.f3].getD j 0∧[m.f0,m.f1,m.f2,m.f3].getD j 0≤1048576)) (fun n _ i hi inv=>by
   simp only [affine_Check_L0,show decide ((i:Int) < 4)=true by simpa using (by omega),cond_true]
   rw [chk_pos ⟨by omega,by omega⟩,wrap_succ (by omega),Int.toNat_natCast]
   simp only [affine_within,call_some,show IntKind.i64.wrap (0 - 1048576) = -1048576 from rfl]
   by_cases c : -1048576≤[m.f0,m.f1,m.f2,m.f3].getD i 0∧[m.f0,m.f1,m.f2,m.f3].getD i 0≤1048576
   ·refine .inr ⟨(),?_,fun j hj=>?_⟩
    ·rw [and_cond,show decide ([m.f0,m.f1,m.f2,m.f3].getD i 0 ≥ -1048576)=true by simpa using c.1,show decide ([m.f0,m.f1,m.f2,m.f3].getD i 0≤1048576)=true by simpa using c.2]
     rfl
    ·by_cases h:j < i
     ·exact inv j h
     ·rw [show j=i by omega]; exact c
   ·refine .inl ⟨.esc 3,?_,.inl ⟨_,rfl,by decide⟩⟩
    rw [and_cond,show (decide ([m.f0,m.f1,m.f2,m.f3].getD i 0 ≥ -1048576) && decide ([m.f0,m.f1,m.f2,m.f3].getD i 0≤1048576))=false by
     rw [← Bool.not_eq_true,Bool.and_eq_true,decide_eq_true_eq,decide_eq_true_eq]; exact c]
    rfl)
  (fun n _ inv=>⟨.go (),by simp [affine_Check_L0],.inr ⟨rfl,inv⟩⟩) F hF () (fun j hj=>absurd hj (Nat.not_lt_zero _))
 obtain ⟨o,h1,h2⟩:=h
 unfold affine_Check
 have h1:affine_Check_L0 F m F 0=some o:=h1
 rw [h1]
 rcases h2 with ⟨e,rfl,he⟩ | ⟨rfl,hl⟩
 ·exact ⟨e,rfl,fun h=>absurd h he⟩
 ·have a0:=hl 0 (by decide)
  have a1:=hl 1 (by decide)
  have a2:=hl 2 (by decide)
  have a3:=hl 3 (by decide)
  simp only [callE_go,affine_within,call_some,call_bif,show IntKind.i64.wrap (0 - 268435456) = -268435456 from rfl]
  by_cases c:(-268435456≤m.f4∧m.f4≤268435456)∧(-268435456≤m.f5∧m.f5≤268435456)
  ·exact ⟨0,by obtain ⟨⟨c1,c2⟩,c3,c4⟩:=c; simp [c1,c2,c3,c4],fun _=>⟨a0,a1,a2,a3,c.1,c.2⟩⟩
  ·refine ⟨3,?_,fun h=>absurd h (by decide)⟩
   simp only [or_cond,and_cond,Bool.cond_eq_ite]
   grind
end Go.Vm.TopG.L
