import Derived.Test.YtppmloolcbpkgaaGreatDoorAsRMachineTries
/-
  AS: the law MachineTries: the run up to its loop, part 1.
-/
namespace Go.As.Try.MachineTries
open Go hiding Stat
open Go.As Go.Proofs Go.RowKit Go.As.Try
set_option maxRecDepth 100000
theorem begins16 : go g (tab1 path cs) 1000 [] (bodyOf Tryz.f5) [] ⟨initSlots args 0 .nil, Hp.zero, pcOf 16⟩ = true := by kernel_rfl
theorem begins17 : go g (tab1 path cs) 1000 [] (bodyOf Tryz.f5) [] ⟨initSlots args 0 .nil, Hp.zero, pcOf 17⟩ = true := by kernel_rfl
theorem begins18 : go g (tab1 path cs) 1000 [] (bodyOf Tryz.f5) [] ⟨initSlots args 0 .nil, Hp.zero, pcOf 18⟩ = true := by kernel_rfl
theorem begins19 : go g (tab1 path cs) 1000 [] (bodyOf Tryz.f5) [] ⟨initSlots args 0 .nil, Hp.zero, pcOf 19⟩ = true := by kernel_rfl
theorem begins20 : go g (tab1 path cs) 1000 [] (bodyOf Tryz.f5) [] ⟨initSlots args 0 .nil, Hp.zero, pcOf 20⟩ = true := by kernel_rfl
theorem begins21 : go g (tab1 path cs) 1000 [] (bodyOf Tryz.f5) [] ⟨initSlots args 0 .nil, Hp.zero, pcOf 21⟩ = true := by kernel_rfl
theorem begins22 : go g (tab1 path cs) 1000 [] (bodyOf Tryz.f5) [] ⟨initSlots args 0 .nil, Hp.zero, pcOf 22⟩ = true := by kernel_rfl
theorem begins23 : go g (tab1 path cs) 1000 [] (bodyOf Tryz.f5) [] ⟨initSlots args 0 .nil, Hp.zero, pcOf 23⟩ = true := by kernel_rfl
theorem begins24 : go g (tab1 path cs) 1000 [] (bodyOf Tryz.f5) [] ⟨initSlots args 0 .nil, Hp.zero, pcOf 24⟩ = true := by kernel_rfl
theorem begins25 : go g (tab1 path cs) 1000 [] (bodyOf Tryz.f5) [] ⟨initSlots args 0 .nil, Hp.zero, pcOf 25⟩ = true := by kernel_rfl
theorem begins26 : go g (tab1 path cs) 1000 [] (bodyOf Tryz.f5) [] ⟨initSlots args 0 .nil, Hp.zero, pcOf 26⟩ = true := by kernel_rfl
theorem begins27 : go g (tab1 path cs) 1000 [] (bodyOf Tryz.f5) [] ⟨initSlots args 0 .nil, Hp.zero, pcOf 27⟩ = true := by kernel_rfl
theorem begins28 : go g (tab1 path cs) 1000 [] (bodyOf Tryz.f5) [] ⟨initSlots args 0 .nil, Hp.zero, pcOf 28⟩ = true := by kernel_rfl
theorem begins29 : go g (tab1 path cs) 1000 [] (bodyOf Tryz.f5) [] ⟨initSlots args 0 .nil, Hp.zero, pcOf 29⟩ = true := by kernel_rfl
theorem begins30 : go g (tab1 path cs) 1000 [] (bodyOf Tryz.f5) [] ⟨initSlots args 0 .nil, Hp.zero, pcOf 30⟩ = true := by kernel_rfl
end Go.As.Try.MachineTries
